/- Walks: Dowker. -/
import Derived.Test.YtgjmjbgicfkojaaW55
namespace Go.Proofs.Ytgjmjbgicfkojaa
open Go.RowKit

def intFn (g : Nat → Int) (j : Nat) : Value := .int .i64 (g j)
theorem rowIs_setI {w : World} {b t m : Nat} {g : Nat → Int} (h : w.rowIs b t m (intFn g)) (a : Nat) (v : Int) : (w.setCell ⟨b, a, none⟩ (.int .i64 v)).rowIs b t m (intFn fun x => if x = a then v else g x) := by
  refine rowIs_congr (h.set _ _) fun j _ => ?_
  unfold intFn
  by_cases c : j = a
  · simp only [if_pos c]
  · simp only [if_neg c]
theorem madeI {w : World} {b m k : Nat} (hb : b = w.heap.size) (hk : m = k) (f : Nat → Int) (hf : ∀ j, j < m → f j = 0) : (w.alloc (.cells (madeCells #[.int .i64 0] m) 3)).rowIs b 3 k (intFn f) := by
  subst hb hk; exact rowIs_congr (World.rowIs_made w _ m 3) fun j hj => by unfold intFn; rw [hf j hj]
theorem od_succ (X : List Kn.Cr) (t c : Nat) : Kn.od X (t + 1) c = if t % 2 = 0 ∧ (Kn.vis X t).1 = c then t + 1 else Kn.od X t c := rfl
theorem ev_succ (X : List Kn.Cr) (t c : Nat) : Kn.ev X (t + 1) c = if t % 2 = 1 ∧ (Kn.vis X t).1 = c then (if (Kn.vis X t).2 then -((t + 1 : Nat) : Int) else ((t + 1 : Nat) : Int)) else Kn.ev X t c := rfl
structure DwI (w wr : World) (ob eb : Nat) (X : List Kn.Cr) (t : Nat) : Prop where
  new : New w wr
  lo : w.heap.size ≤ ob
  le : w.heap.size ≤ eb
  ro : wr.rowIs ob 3 X.length (intFn fun c => (Kn.od X t c : Nat))
  re : wr.rowIs eb 3 X.length (intFn (Kn.ev X t))
  ne : ob ≠ eb
section
variable {w wr wx : World} {ob eb : Nat} {X : List Kn.Cr} {t : Nat}
theorem DwI.nw (h : DwI w wr ob eb X t) (hf : New wr wx) : DwI w wx ob eb X t := ⟨h.new.trans hf, h.lo, h.le, hf.row h.ro fun x => x, hf.row h.re fun x => x, h.ne⟩
theorem DwI.odd (h : DwI w wr ob eb X t) (ht : t % 2 = 0) {c : Nat} {o : Bool} (hv : Kn.vis X t = (c, o)) {v : Int} (hv2 : v = (t + 1 : Nat)) : DwI w (wr.setCell ⟨ob, c, none⟩ (.int .i64 v)) ob eb X (t + 1) ∧ Fr (fun k => k = ob) wr (wr.setCell ⟨ob, c, none⟩ (.int .i64 v)) := by
  have hF : Fr (fun k => k = ob) wr (wr.setCell ⟨ob, c, none⟩ (.int .i64 v)) := Fr.setCell (S := fun k => k = ob) (Fr.refl _ wr) (a := ⟨ob, c, none⟩) (.inl rfl) _
  refine ⟨⟨h.new.next hF fun i hi => .inr (by rw [hi]; exact h.lo), h.lo, h.le, rowIs_congr (rowIs_setI h.ro c v) fun j _ => ?_, hF.row (rowIs_congr h.re fun j _ => ?_) fun e => h.ne e.symm, h.ne⟩, hF⟩
  · unfold intFn
    show Value.int .i64 ((Kn.od X (t + 1) j : Nat) : Int) = Value.int .i64 (if j = c then v else ((Kn.od X t j : Nat) : Int))
    rw [od_succ, hv]
    by_cases e : j = c
    · rw [if_pos ⟨ht, e.symm⟩, if_pos e, hv2]
    · rw [if_neg (fun x => e x.2.symm), if_neg e]
  · unfold intFn
    rw [ev_succ, if_neg (fun x => by omega)]
theorem DwI.even (h : DwI w wr ob eb X t) (ht : t % 2 = 1) {c : Nat} {o : Bool} (hv : Kn.vis X t = (c, o)) {v : Int} (hv2 : v = if o then -((t + 1 : Nat) : Int) else ((t + 1 : Nat) : Int)) : DwI w (wr.setCell ⟨eb, c, none⟩ (.int .i64 v)) ob eb X (t + 1) ∧ Fr (fun k => k = eb) wr (wr.setCell ⟨eb, c, none⟩ (.int .i64 v)) := by
  have hF : Fr (fun k => k = eb) wr (wr.setCell ⟨eb, c, none⟩ (.int .i64 v)) := Fr.setCell (S := fun k => k = eb) (Fr.refl _ wr) (a := ⟨eb, c, none⟩) (.inl rfl) _
  refine ⟨⟨h.new.next hF fun i hi => .inr (by rw [hi]; exact h.le), h.lo, h.le, hF.row (rowIs_congr h.ro fun j _ => ?_) h.ne, rowIs_congr (rowIs_setI h.re c v) fun j _ => ?_, h.ne⟩, hF⟩
  · unfold intFn
    show Value.int .i64 ((Kn.od X (t + 1) j : Nat) : Int) = Value.int .i64 ((Kn.od X t j : Nat) : Int)
    rw [od_succ, if_neg (fun x => by omega)]
  · unfold intFn
    rw [ev_succ, hv]
    simp only []
    by_cases e : j = c
    · rw [if_pos ⟨ht, e.symm⟩, if_pos e, hv2]
    · rw [if_neg (fun x => e x.2.symm), if_neg e]
end
def MidD (w w2 : World) (X : List Kn.Cr) (n : Nat) (s t : Value) (wx : World) : Prop :=
  ∃ ob eb, s = .slice (some ⟨ob, 0, none⟩) n n ∧ t = .slice (some ⟨eb, 0, none⟩) n n ∧ DwI w wx ob eb X 0 ∧ New w2 wx
theorem midD {w w2 : World} {X : List Kn.Cr} {n : Nat} (hn : n = X.length) (hw : New w w2) {p q : Nat} (hpq : p = w2.heap.size ∧ q = w2.heap.size + 1 ∨ p = w2.heap.size + 1 ∧ q = w2.heap.size) :
    MidD w w2 X n (.slice (some ⟨p, 0, none⟩) n n) (.slice (some ⟨q, 0, none⟩) n n) ((w2.alloc (.cells (madeCells #[.int .i64 0] n) 3)).alloc (.cells (madeCells #[.int .i64 0] n) 3)) := by
  have hs := hw.size
  have hF : New w2 ((w2.alloc (.cells (madeCells #[.int .i64 0] n) 3)).alloc (.cells (madeCells #[.int .i64 0] n) 3)) := ((Fr.refl _ _).alloc _).alloc _
  have h1 : ∀ f : Nat → Int, (∀ j, j < n → f j = 0) → ((w2.alloc (.cells (madeCells #[.int .i64 0] n) 3)).alloc (.cells (madeCells #[.int .i64 0] n) 3)).rowIs w2.heap.size 3 X.length (intFn f) := fun f hf => (madeI rfl hn f hf).alloc _
  have h2 : ∀ f : Nat → Int, (∀ j, j < n → f j = 0) → ((w2.alloc (.cells (madeCells #[.int .i64 0] n) 3)).alloc (.cells (madeCells #[.int .i64 0] n) 3)).rowIs (w2.heap.size + 1) 3 X.length (intFn f) := fun f hf => madeI (by simp) hn f hf
  refine ⟨p, q, rfl, rfl, ?_, hF⟩
  rcases hpq with ⟨rfl, rfl⟩ | ⟨rfl, rfl⟩
  · exact ⟨hw.trans hF, by omega, by omega, h1 _ fun _ _ => rfl, h2 _ fun _ _ => rfl, by omega⟩
  · exact ⟨hw.trans hF, by omega, by omega, h2 _ fun _ _ => rfl, h1 _ fun _ _ => rfl, by omega⟩
theorem MidD.drew {w w2 wx : World} {X : List Kn.Cr} {n : Nat} {s t : Value} (h : MidD w w2 X n s t wx) : MidD w w2 X n s t wx.drew := by
  obtain ⟨bb, ab, h1, h2, h3, h4⟩ := h
  exact ⟨bb, ab, h1, h2, h3.nw (Fr.refl _ _).drew, h4.drew⟩
/- what Dowker hands back -/
structure EvAt (w : World) (v : Value) (n : Nat) : Prop where
  ex : ∃ b K, v = .slice (some ⟨b, 0, none⟩) n n ∧ w.rowIs b 3 n (intFn K) ∧ Kn.EvenList n K
def GaveDw (X : List Kn.Cr) (L : Int) (w : World) (e : Ending) (w' : World) : Prop :=
  New w w' ∧ ((((Kn.strandsL X).length ≠ 1 ∨ 0 < L) ∧ e = .returned (.tuple #[.slice none 0 0, .int .i64 9])) ∨
    ((Kn.strandsL X).length = 1 ∧ L = 0 ∧ ((Kn.planarB X = false ∧ e = .returned (.tuple #[.slice none 0 0, .int .i64 5])) ∨ ∃ v, e = .returned (.tuple #[v, .int .i64 0]) ∧ EvAt w' v X.length)))
structure DwO (w wr : World) (ob eb xb : Nat) (X : List Kn.Cr) (c : Nat) : Prop where
  i : DwI w wr ob eb X (Kn.nArcs X)
  lx : w.heap.size ≤ xb
  rx : wr.rowIs xb 3 X.length (intFn (Kn.outV X (Kn.nArcs X) c))
  n1 : xb ≠ ob
  n2 : xb ≠ eb
theorem DwO.put {w wr : World} {ob eb xb : Nat} {X : List Kn.Cr} {c j : Nat} {v : Int} (h : DwO w wr ob eb xb X c) (hj : j = Kn.od X (Kn.nArcs X) c / 2) (hv : v = Kn.ev X (Kn.nArcs X) c) : DwO w (wr.setCell ⟨xb, j, none⟩ (.int .i64 v)) ob eb xb X (c + 1) := by
  have hF : Fr (fun k => k = xb) wr (wr.setCell ⟨xb, j, none⟩ (.int .i64 v)) := Fr.setCell (S := fun k => k = xb) (Fr.refl _ wr) (a := ⟨xb, j, none⟩) (.inl rfl) _
  refine ⟨⟨h.i.new.next hF fun i hi => .inr (by rw [hi]; exact h.lx), h.i.lo, h.i.le, hF.row h.i.ro fun e => h.n1 e.symm, hF.row h.i.re fun e => h.n2 e.symm, h.i.ne⟩, h.lx, rowIs_congr (rowIs_setI h.rx j v) fun i _ => ?_, h.n1, h.n2⟩
  unfold intFn
  rw [Kn.outV_succ, ← hj, ← hv]
  simp only [eq_comm]
theorem DwO.nw {w wr wx : World} {ob eb xb : Nat} {X : List Kn.Cr} {c : Nat} (h : DwO w wr ob eb xb X c) (hf : New wr wx) : DwO w wx ob eb xb X c := ⟨h.i.nw hf, h.lx, hf.row h.rx fun x => x, h.n1, h.n2⟩

set_option maxRecDepth 100000 in
set_option maxHeartbeats 4000000 in
theorem dowker_any (a : Option Addr) (n c : Nat) (X : List Kn.Cr) (L : Int) (w : World) (hx : CrsAt w a X) (hn : n = X.length) (hm : Kn.mayB X L = true) :
    Calls Try.prog 15 #[.agg #[.slice a n c, .int .i64 L]] w (GaveDw X L w) := by
  have HN := Lib.hid hn
  have HX := Lib.hid hx
  have HOK := Lib.hid (mayB_ok hm)
  have hn16 : n ≤ 16 := by have := HOK.out.2; have := HN.out; omega
  have hL : 0 ≤ L ∧ L ≤ 16 := by
    unfold Kn.mayB at hm
    simp only [Bool.and_eq_true, decide_eq_true_eq] at hm
    exact ⟨hm.1.1.1.2, hm.1.1.2⟩
  obtain ⟨hL0, hL1⟩ := hL
  have HM := Lib.hid hm
  obtain ⟨np, HNP⟩ : ∃ np, Hid (np = (Kn.strandsL X).length) := ⟨_, Lib.hid rfl⟩
  have hnp : np ≤ 32 := by have := HNP.out; have := strands_few X; unfold Kn.nArcs at this; have := HOK.out.2; omega
  clear hx hn hm
  have hmk : ∀ w, (Instr.makeSlice 35 (.int .i64 (n : Int)) (.int .i64 (n : Int))).run Try.prog w = .ok (.slice (some ⟨w.heap.size, 0, none⟩) n n) (w.alloc (.cells (madeCells #[.int .i64 0] n) 3)) := fun w =>
    run_make_row' (P := Try.prog) 35 3 (.int .i64 0) 8 Try.underlying35 Try.info3 rfl .i64 .i64 n (by omega) (by omega) w
  go_enter Try.func15, Try.ntmps15
  go_wp2_with fail
  refine (new_any a n c X L _ (New.crs ((Fr.refl _ _).alloc _) HX.out) HN.out (by omega) (by omega) (by omega)).mono ?_
  rintro e w4 ⟨hF, h5⟩
  obtain ⟨_, b, rfl, hs, _, _⟩ := h5.resolve_right (fun h => by have h1 := h.1; rw [HM.out] at h1; cases h1)
  have HF : Hid (New w w4) := Lib.hid (((Fr.refl _ _).alloc _).trans hF)
  have HB := Lib.hid (hF.blk (heap_alloc_new w (.cells #[.slice a n c, .int .i64 L] 24)) fun x => x)
  have HS := Lib.hid hs
  clear hF hs h5
  go_wp2_with fail
  refine (visits_any b X L _ HS.out HOK.out.1 HOK.out.2).mono ?_
  rintro e w5 ⟨v, rfl, hr, hE⟩
  obtain ⟨a1, c1, rfl⟩ := hr.sl
  rw [visL_len, ← HNP.out] at hr ⊢
  have HR := Lib.hid hr
  have HN5 : Hid (New w w5) := Lib.hid (HF.out.trans hE)
  have HS5 := Lib.hid (New.shAt hE HS.out)
  have hb5 := hE.blk HB.out fun x => x
  obtain ⟨p0, p1, _, _⟩ := box2_c hb5
  clear hr hE hb5 HF HB HS
  by_cases hk : np = 1 ∧ L = 0
  · obtain ⟨rfl, rfl⟩ := hk
    have hq0 : 0 < (Kn.strandsL X).length := by have := HNP.out; omega
    obtain ⟨vv, bi, bo, base, hsh⟩ := HS5.out
    obtain ⟨s0, _, _, _⟩ := hsh.c2
    obtain ⟨a3, c3, rfl, _⟩ := CrsAt.of_owns hsh.own
    rw [← HN.out] at s0
    obtain ⟨g, c, u, he, hcell, hown⟩ := HR.out.at (i := 0) (by rw [visL_len]; exact hq0)
    rw [visL_len, ← HNP.out] at he
    cases he
    rw [visL_at hq0] at hown
    obtain ⟨a2, c2, rfl⟩ := OwnVs.sl hown
    obtain ⟨fl, HFL⟩ : ∃ m, Hid (m = (Kn.strandsL X)[0].length) := ⟨_, Lib.hid rfl⟩
    rw [List.length_map, ← HFL.out] at hcell hown
    have HALLT : Hid (fl = Kn.nArcs X) := Lib.hid (by
      have h1 := Kn.offs_succ hq0
      rw [Kn.offs_zero, ← HFL.out, Nat.zero_add] at h1
      have h2 := Kn.offs_all (Kn.strandsL X)
      rw [← HNP.out, Kn.flat_len HOK.out.1] at h2
      omega)
    have hfl : fl ≤ 32 := by have := HALLT.out; unfold Kn.nArcs at this; have := HN.out; omega
    have HOW := Lib.hid hown
    have HBL := Lib.hid hsh.blk
    clear hown hsh
    go_wp2_with fail
    go_cut [7, 8] (fun s7 s8 wx => Hid (MidD w w5 X n s7 s8 wx))
    case first =>
      go_region_held3 (fun w' => w'.cell? ⟨b, 0, none⟩ = some (.slice a3 n c3))
        (first | assumption | exact cell_alloc ‹_› _ | go_keep)
        (first | fail)
      all_goals
        go_wp2_with fail
        go_meet
        refine Lib.hid ?_
        first
          | exact midD HN.out HN5.out (.inl ⟨rfl, rfl⟩)
          | exact midD HN.out HN5.out (.inr ⟨rfl, rfl⟩)
          | exact (midD HN.out HN5.out (.inl ⟨rfl, rfl⟩)).drew
          | exact (midD HN.out HN5.out (.inr ⟨rfl, rfl⟩)).drew
    case rest =>
    obtain ⟨ob, eb, rfl, rfl, hi, hf6⟩ := Hid.out hcut
    obtain ⟨w6, rfl⟩ : ∃ w2, w2 = wc := ⟨_, rfl⟩
    have HI0 := Lib.hid hi
    have hcell6 := hf6.cell hcell fun x => x
    have HC6 := Lib.hid (hf6.cell s0 fun x => x)
    have HOW6 : Hid (OwnVs w6 (.slice a2 fl c2) ((Kn.strandsL X)[0].map (visA X))) := Lib.hid (hf6.owns HOW.out fun _ _ x => x)
    have HNO : Hid (¬ b = ob) := Lib.hid (blk_ne (hf6.blk HBL.out fun x => x) hi.ro (by decide))
    have HNE : Hid (¬ b = eb) := Lib.hid (blk_ne (hf6.blk HBL.out fun x => x) hi.re (by decide))
    clear hcut hi hf6 hcell s0 p0 p1 HOW HBL
    go_wp2
    clear hcell6
    go_loopw [49] (fun i wr => ∃ k : Nat, k ≤ fl ∧ i = .int .i64 k ∧ Hid (DwI w wr ob eb X k) ∧ Hid (OwnVs wr (.slice a2 fl c2) ((Kn.strandsL X)[0].map (visA X))) ∧ Hid (wr.cell? ⟨b, 0, none⟩ = some (.slice a3 n c3))) (fun i _ => fl - (intOf i).toNat)
    case atStart => exact ⟨0, by omega, rfl, HI0, HOW6, HC6⟩
    case round =>
      obtain ⟨k, hk, rfl, HIk, HOk, HCk⟩ := hrel
      by_cases hkf : k < fl
      · have hkF : k < (Kn.strandsL X)[0].length := by have := HFL.out; omega
        obtain ⟨g3, c3', he3, hc3, hd3⟩ := HOk.out.at (i := k) (by rw [List.length_map]; exact hkF)
        rw [List.length_map, ← HFL.out] at he3
        cases he3
        simp only [List.getElem_map] at hc3 hd3
        rw [vis_at hq0 hkF, Kn.offs_zero, Nat.zero_add] at hc3 hd3
        have ht : k < Kn.nArcs X := by rw [← HALLT.out]; exact hkf
        have hpc := Kn.vis_lt HOK.out.1 ht
        obtain ⟨pc, o, hp⟩ : ∃ pc o, Kn.vis X k = (pc, o) := ⟨_, _, rfl⟩
        rw [hp] at hc3 hd3 hpc
        simp only at hc3 hd3 hpc
        rw [← HN.out] at hpc
        have i3 : (0 : Int) ≤ (k : Int) := by omega
        have i4 : (k : Int) < (fl : Int) := by omega
        have i5 : (0 : Int) ≤ (pc : Int) := by omega
        have i6 : (pc : Int) < (n : Int) := by omega
        have HN9 : Hid (New wr (wr.alloc (.cells #[.int .i64 pc, .bool o] 74))) := Lib.hid ((Fr.refl _ wr).alloc _)
        have HO9 : Hid (OwnVs (wr.alloc (.cells #[.int .i64 pc, .bool o] 74)) (.slice (some ⟨g3, 0, none⟩) fl c2) ((Kn.strandsL X)[0].map (visA X))) := Lib.hid (HN9.out.owns HOk.out fun _ _ x => x)
        have HD9 := Lib.hid (HIk.out.nw HN9.out)
        have hro := HD9.out.ro.cell (i := pc) (by have := HN.out; omega)
        have hre := HD9.out.re.cell (i := pc) (by have := HN.out; omega)
        have hfo := HD9.out.ro.frozen pc
        have hfe := HD9.out.re.frozen pc
        have HP := Lib.hid hp
        clear hp ht
        rcases Nat.mod_two_eq_zero_or_one k with hpar | hpar
        · have htm : ((k : Int) + 1).tmod 2 = 1 := by rw [Int.tmod_eq_emod_of_nonneg (by omega)]; omega
          have h9 := HD9.out.odd hpar HP.out (v := (k : Int) + 1) (by omega)
          have HI9 := Lib.hid h9.1
          have HC9 := Lib.hid (h9.2.cell (HN9.out.cell HCk.out fun x => x) HNO.out)
          have HV9 := Lib.hid (h9.2.owns HO9.out (own_ne HO9.out HD9.out.ro (by decide)))
          have HPAR := Lib.hid hpar
          clear hpar h9
          go_wp2
          go_roundw
          case rel => exact ⟨k + 1, by omega, by go_num, HI9, HV9, HC9⟩
          case measure => simp [intOf]; omega
        · have htm : ((k : Int) + 1).tmod 2 = 0 := by rw [Int.tmod_eq_emod_of_nonneg (by omega)]; omega
          cases o
          · have h9 := HD9.out.even hpar HP.out (v := (k : Int) + 1) (by simp)
            have HI9 := Lib.hid h9.1
            have HC9 := Lib.hid (h9.2.cell (HN9.out.cell HCk.out fun x => x) HNE.out)
            have HV9 := Lib.hid (h9.2.owns HO9.out (own_ne HO9.out HD9.out.re (by decide)))
            have HPAR := Lib.hid hpar
            clear hpar h9
            go_wp2
            go_roundw
            case rel => exact ⟨k + 1, by omega, by go_num, HI9, HV9, HC9⟩
            case measure => simp [intOf]; omega
          · have h9 := HD9.out.even hpar HP.out (v := -((k : Int) + 1)) (by simp)
            have HI9 := Lib.hid h9.1
            have HC9 := Lib.hid (h9.2.cell (HN9.out.cell HCk.out fun x => x) HNE.out)
            have HV9 := Lib.hid (h9.2.owns HO9.out (own_ne HO9.out HD9.out.re (by decide)))
            have HPAR := Lib.hid hpar
            clear hpar h9
            go_wp2
            go_roundw
            case rel => exact ⟨k + 1, by omega, by go_num, HI9, HV9, HC9⟩
            case measure => simp [intOf]; omega
      · obtain rfl : k = fl := by omega
        have hck := HCk.out
        have HX0 : Hid (DwO w (wr.alloc (.cells (madeCells #[.int .i64 0] n) 3)) ob eb wr.heap.size X 0) := Lib.hid (by
          have hi := HIk.out
          rw [HALLT.out] at hi
          have h1 : ob < wr.heap.size := by obtain ⟨_, h1, _⟩ := hi.ro; exact (Array.getElem?_eq_some_iff.1 h1).1
          have h2 : eb < wr.heap.size := by obtain ⟨_, h1, _⟩ := hi.re; exact (Array.getElem?_eq_some_iff.1 h1).1
          exact ⟨hi.nw ((Fr.refl _ wr).alloc _), hi.new.size, madeI rfl HN.out _ fun _ _ => rfl, by omega, by omega⟩)
        have HC0 := Lib.hid (cell_alloc hck (.cells (madeCells #[.int .i64 0] n) 3))
        have hc0 := HC0.out
        go_wp2
        clear hck hc0
        obtain ⟨xb, HXB⟩ : ∃ xb, Hid (xb = wr.heap.size) := ⟨_, Lib.hid rfl⟩
        rw [← HXB.out] at HX0 ⊢
        obtain ⟨wo, HWO⟩ : ∃ wo, wo = wr.alloc (.cells (madeCells #[.int .i64 0] n) 3) := ⟨_, rfl⟩
        rw [← HWO] at HX0 HC0 ⊢
        clear HWO HXB
        go_loopw [93] (fun i wr => ∃ k : Nat, k ≤ n ∧ i = .int .i64 k ∧ Hid (DwO w wr ob eb xb X k) ∧ Hid (∀ c, c < k → Kn.od X (Kn.nArcs X) c ≠ 0 ∧ Kn.ev X (Kn.nArcs X) c ≠ 0)) (fun i _ => n - (intOf i).toNat)
        case atStart => exact ⟨0, by omega, rfl, HX0, Lib.hid (fun c hc => by omega)⟩
        case round =>
          obtain ⟨j, hj, rfl, HO, HALL⟩ := hrel
          by_cases hjn : j < n
          · have hjX : j < X.length := by have := HN.out; omega
            obtain ⟨O1, HO1⟩ : ∃ x, Hid (x = Kn.od X (Kn.nArcs X) j) := ⟨_, Lib.hid rfl⟩
            obtain ⟨E1, HE1⟩ : ∃ x, Hid (x = Kn.ev X (Kn.nArcs X) j) := ⟨_, Lib.hid rfl⟩
            have hro := HO.out.i.ro.cell (i := j) hjX
            have hre := HO.out.i.re.cell (i := j) hjX
            simp only [intFn] at hro hre
            rw [← HO1.out] at hro
            rw [← HE1.out] at hre
            have i3 : (0 : Int) ≤ (j : Int) := by omega
            have i4 : (j : Int) < (n : Int) := by omega
            by_cases hz : O1 = 0
            · subst hz
              have HPL : Hid (Kn.planarB X = false) := Lib.hid (by
                rw [Bool.eq_false_iff]
                intro hp
                obtain ⟨r, hr⟩ := List.length_eq_one_iff.1 HNP.out.symm
                exact (HOK.out.1.dowker hp hr hjX).1 HO1.out.symm)
              go_wp2
              go_ret2
              exact ⟨HO.out.i.new, .inr ⟨HNP.out.symm, rfl, .inl ⟨HPL.out, rfl⟩⟩⟩
            · have hz1 : ((O1 : Int) == 0) = false := by simp [hz]
              by_cases hy : E1 = 0
              · subst hy
                have HPL : Hid (Kn.planarB X = false) := Lib.hid (by
                  rw [Bool.eq_false_iff]
                  intro hp
                  obtain ⟨r, hr⟩ := List.length_eq_one_iff.1 HNP.out.symm
                  exact (HOK.out.1.dowker hp hr hjX).2 HE1.out.symm)
                clear hz
                go_wp2
                go_ret2
                exact ⟨HO.out.i.new, .inr ⟨HNP.out.symm, rfl, .inl ⟨HPL.out, rfl⟩⟩⟩
              · have hy1 : (E1 == 0) = false := by simp [hy]
                have HA1 : Hid (∀ c, c < j + 1 → Kn.od X (Kn.nArcs X) c ≠ 0 ∧ Kn.ev X (Kn.nArcs X) c ≠ 0) := Lib.hid fun c hc => by
                  by_cases e : c = j
                  · subst e; rw [← HO1.out, ← HE1.out]; exact ⟨hz, hy⟩
                  · exact HALL.out c (by omega)
                obtain ⟨x, HYtgjmjbgicfkojaa⟩ : ∃ x, Hid (x = O1 / 2) := ⟨_, Lib.hid rfl⟩
                have hxn : x < n := by
                  have h1 := Kn.od_le (X := X) (Kn.nArcs X) j
                  obtain ⟨u, u1, u2, _, u4⟩ := Kn.od_of (X := X) (t := Kn.nArcs X) (c := j) (by rw [← HO1.out]; exact hz)
                  rw [← HO1.out] at u4
                  have := HYtgjmjbgicfkojaa.out; have := HN.out
                  unfold Kn.nArcs at u1
                  omega
                have htd : (O1 : Int).tdiv 2 = (x : Int) := by rw [HYtgjmjbgicfkojaa.out, Int.tdiv_eq_ediv_of_nonneg (by omega)]; omega
                have hxc := HO.out.rx.cell (i := x) (by have := HN.out; omega)
                have hxf := HO.out.rx.frozen x
                have i5 : (0 : Int) ≤ (x : Int) := by omega
                have i6 : (x : Int) < (n : Int) := by omega
                have HPUT := Lib.hid (HO.out.put (j := x) (v := E1) (by rw [HYtgjmjbgicfkojaa.out, HO1.out]) HE1.out)
                have HE9 : Hid (-40 ≤ E1 ∧ E1 ≤ 40) := Lib.hid (by
                  have h1 := Kn.ev_le (X := X) (Kn.nArcs X) j
                  rw [← HE1.out] at h1
                  unfold Kn.nArcs at h1
                  have := HN.out
                  omega)
                clear hz hy
                go_wp2
                go_region
                go_wp2
                go_roundw
                case rel => exact ⟨j + 1, by omega, by go_num, Lib.hid (HPUT.out.nw (Fr.refl _ _).drew), HA1⟩
                case measure => simp [intOf]; omega
          · obtain rfl : j = n := by omega
            have HEV : Hid (EvAt wr (.slice (some ⟨xb, 0, none⟩) j j) X.length) := Lib.hid (by
              have e := HN.out
              exact ⟨⟨xb, Kn.outV X (Kn.nArcs X) j, by rw [← e], HO.out.rx, by rw [e]; exact Kn.evens fun c hc => HALL.out c (by rw [e]; exact hc)⟩⟩)
            go_wp2
            go_ret2
            exact ⟨HO.out.i.new, .inr ⟨HNP.out.symm, rfl, .inr ⟨_, rfl, HEV.out⟩⟩⟩
  · by_cases h1 : np = 1
    · have h2 : 0 < L := by have : ¬ L = 0 := fun e => hk ⟨h1, e⟩; omega
      subst h1
      clear hk
      go_wp2
      go_ret2
      exact ⟨HN5.out, .inl ⟨.inr h2, rfl⟩⟩
    · have h2 : ((np : Int) != 1) = true := by simp; omega
      clear hk
      go_wp2
      go_ret2
      exact ⟨HN5.out, .inl ⟨.inl (by rw [← HNP.out]; exact h1), rfl⟩⟩
end Go.Proofs.Ytgjmjbgicfkojaa
