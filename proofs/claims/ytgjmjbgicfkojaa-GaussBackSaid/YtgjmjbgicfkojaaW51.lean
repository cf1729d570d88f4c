/- Walks: twice, at what Gauss tells. -/
import Derived.Test.YtgjmjbgicfkojaaW50
import Derived.Test.YtgjmjbgicfkojaaW42
import Derived.Test.YtgjmjbgicfkojaaW31
namespace Go.Proofs.Ytgjmjbgicfkojaa
open Go.RowKit

theorem Try.info75 : (Try.prog.info? 75).map (fun i => (i.zero, i.size, i.bytes)) = some (some (.agg #[.int .i64 0, .int .i64 0]), 2, 16) := by kernel_rfl
theorem make75 (m : Nat) (hm : m ≤ 1000) (w : World) : (Instr.makeSlice 71 (.int .i64 (m : Int)) (.int .i64 (m : Int))).run Try.prog w = .ok (.slice (some ⟨w.heap.size, 0, none⟩) m m) (w.alloc (.cells (madeCells #[.int .i64 0, .int .i64 0] (m * 2)) 75)) := by
  obtain ⟨i, hi, h1, h2, h3⟩ := info_parts Try.info75
  have hr := run_make (P := Try.prog) w 71 75 i _ Try.underlying71 hi h1 .i64 .i64 m m (by omega) (Int.le_refl _) (by rw [h3]; omega) (by omega)
  simp only [Int.toNat_natCast, h2] at hr
  exact hr
theorem rowIs_made75 (w : World) (m : Nat) (f : Nat → Nat) (hf : ∀ j, j < m → f j = 0) : (w.alloc (.cells (madeCells #[.int .i64 0, .int .i64 0] m) 75)).rowIs w.heap.size 75 m (numFn f) := by
  have := World.rowIs_alloc w (madeCells #[.int .i64 0, .int .i64 0] m) 75 (numFn f) (fun i hi => by
    rw [size_madeCells] at hi
    have e : (madeCells #[Value.int .i64 0, .int .i64 0] m)[i]? = some (#[Value.int .i64 0, .int .i64 0][i % 2]!) := by simp [madeCells, hi]
    rw [e]
    unfold numFn
    rw [hf i hi]
    rcases Nat.mod_two_eq_zero_or_one i with h | h <;> rw [h] <;> rfl)
  rwa [size_madeCells] at this
/- a cell of two-celled elements -/
def two2 (f : Nat → Nat → Nat) (j : Nat) : Nat := f (j / 2) (j % 2)
theorem two2_at (f : Nat → Nat → Nat) {c k : Nat} (hk : k < 2) : two2 f (c * 2 + k) = f c k := by
  unfold two2; rw [show (c * 2 + k) / 2 = c by omega, show (c * 2 + k) % 2 = k by omega]
theorem rowIs_setN' {w : World} {b t m : Nat} {g : Nat → Nat} (h : w.rowIs b t m (numFn g)) (a v : Nat) : (w.setCell ⟨b, a, none⟩ (.int .i64 (v : Nat))).rowIs b t m (numFn fun x => if x = a then v else g x) := by
  refine rowIs_congr (h.set _ _) fun j _ => ?_
  unfold numFn
  by_cases c : j = a
  · simp only [if_pos c]
  · simp only [if_neg c]
def oN (o : Bool) : Nat := if o then 1 else 0
theorem oN_lt (o : Bool) : oN o < 2 := by cases o <;> decide
/- visits of a part, cell by cell -/
theorem OwnVs.at {w : World} {v : Value} {l : List Kn.Dt} (h : OwnVs w v l) {i : Nat} (hi : i < l.length) : ∃ g c, v = .slice (some ⟨g, 0, none⟩) l.length c ∧ w.cell? ⟨g, i * 2, none⟩ = some (.int .i64 (l[i].1 : Nat)) ∧ w.cell? ⟨g, i * 2 + 1, none⟩ = some (.bool l[i].2) := by
  rcases h.2 with ⟨rfl, h0⟩ | ⟨g, cap, cur, rfl, hb, hg, h1, h2, h3, h4⟩
  · omega
  · refine ⟨g, cap, rfl, ?_, ?_⟩
    · have := World.ownsRow.cells h (g := g) rfl (i * 2) (.int .i64 (l[i].1 : Nat)) (dcells_at hi).1
      rwa [addr_add, Nat.zero_add] at this
    · have := World.ownsRow.cells h (g := g) rfl (i * 2 + 1) (.bool l[i].2) (dcells_at hi).2
      rwa [addr_add, Nat.zero_add] at this
theorem visL_len (X : List Kn.Cr) : (visL X).length = (Kn.strandsL X).length := by simp [visL]
theorem visL_at {X : List Kn.Cr} {q : Nat} (hq : q < (Kn.strandsL X).length) : (visL X)[q]'(by rw [visL_len]; exact hq) = (Kn.strandsL X)[q].map (visA X) := by simp [visL]
theorem vis_at {X : List Kn.Cr} {q k : Nat} (hq : q < (Kn.strandsL X).length) (hk : k < (Kn.strandsL X)[q].length) : visA X ((Kn.strandsL X)[q][k]) = Kn.vis X (Kn.offs (Kn.strandsL X) q + k) := by
  obtain ⟨hl, e⟩ := Kn.offs_at hq hk
  unfold visA Kn.vis Kn.fl
  rw [List.getD_eq_getElem?_getD, List.getElem?_eq_getElem hl, Option.getD_some, e]
theorem time_lt {X : List Kn.Cr} (hX : Kn.Ok X) {q k : Nat} (hq : q < (Kn.strandsL X).length) (hk : k < (Kn.strandsL X)[q].length) : Kn.offs (Kn.strandsL X) q + k < Kn.nArcs X := by
  obtain ⟨hl, _⟩ := Kn.offs_at hq hk
  rwa [Kn.flat_len hX] at hl

def cntF (X : List Kn.Cr) (t : Nat) : Nat → Nat := two2 fun c k => Kn.cntV X t c (decide (k = 1))
structure TwI (w wr : World) (cb : Nat) (X : List Kn.Cr) (t : Nat) : Prop where
  new : New w wr
  lb : w.heap.size ≤ cb
  row : wr.rowIs cb 75 (X.length * 2) (numFn (cntF X t))
theorem TwI.nw {w wr wx : World} {cb : Nat} {X : List Kn.Cr} {t : Nat} (h : TwI w wr cb X t) (hf : New wr wx) : TwI w wx cb X t := ⟨h.new.trans hf, h.lb, hf.row h.row fun x => x⟩
theorem TwI.put {w wr : World} {cb : Nat} {X : List Kn.Cr} {t c : Nat} {o : Bool} (hX : Kn.Ok X) (h : TwI w wr cb X t) (ht : t < Kn.nArcs X) (hv : Kn.vis X t = (c, o)) : TwI w (wr.setCell ⟨cb, c * 2 + oN o, none⟩ (.int .i64 (1 : Nat))) cb X (t + 1) := by
  refine ⟨h.new.setCell (a := ⟨cb, c * 2 + oN o, none⟩) (.inr h.lb) _, h.lb, rowIs_congr (rowIs_setN' h.row (c * 2 + oN o) 1) fun j hj => ?_⟩
  unfold numFn cntF two2
  simp only []
  rw [Kn.cntV_succ hX ht (by omega), hv]
  have e : (c, o) = (j / 2, decide (j % 2 = 1)) ↔ j = c * 2 + oN o := by
    rw [Prod.mk.injEq]
    unfold oN
    cases o
    · simp; omega
    · simp; omega
  by_cases he : j = c * 2 + oN o
  · rw [if_pos (e.2 he), if_pos he]
  · rw [if_neg (fun x => he (e.1 x)), if_neg he]
theorem TwI.read {w wr : World} {cb : Nat} {X : List Kn.Cr} {t c : Nat} {o : Bool} (hX : Kn.Ok X) (h : TwI w wr cb X t) (ht : t < Kn.nArcs X) (hv : Kn.vis X t = (c, o)) : c < X.length ∧ wr.cell? ⟨cb, c * 2 + oN o, none⟩ = some (.int .i64 0) ∧ wr.frozen? ⟨cb, c * 2 + oN o, none⟩ = false := by
  have hc := Kn.vis_lt hX ht
  have h0 := Kn.cntV_at hX ht
  rw [hv] at hc h0
  simp only at hc h0
  have hlt := oN_lt o
  refine ⟨hc, ?_, h.row.frozen _⟩
  have := h.row.cell (i := c * 2 + oN o) (by omega)
  unfold numFn cntF at this
  rw [two2_at _ hlt] at this
  have e : decide (oN o = 1) = o := by cases o <;> rfl
  rw [e, h0] at this
  exact this

set_option maxRecDepth 100000 in
set_option maxHeartbeats 4000000 in
theorem twice_any (n : Nat) (v : Value) (X : List Kn.Cr) (w : World) (hv : Rows OwnVs 0 72 w v (visL X)) (hX : Kn.Ok X) (hn : n = X.length) (hl : n ≤ 16) :
    Calls Try.prog 49 #[v, .int .i64 n] w fun e w' => e = .returned (.bool true) ∧ New w w' := by
  obtain ⟨m, hm⟩ : ∃ m, m = Kn.nArcs X := ⟨_, rfl⟩
  have hm32 : m ≤ 32 := by rw [hm]; unfold Kn.nArcs; omega
  have HM := Lib.hid hm
  have HX := Lib.hid hX
  have HN := Lib.hid hn
  obtain ⟨np, HNP⟩ : ∃ np, Hid (np = (Kn.strandsL X).length) := ⟨_, Lib.hid rfl⟩
  have hnp : np ≤ 32 := by have := HNP.out; have := strands_few X; omega
  obtain ⟨a1, c1, rfl⟩ := hv.sl
  rw [visL_len, ← HNP.out] at hv ⊢
  have HV := Lib.hid hv
  clear hv hX hm hn
  have hmk := make75 n (by omega)
  have hne : ∀ w, (binOp .neq 75 (.agg #[.int .i64 1, .int .i64 1]) (.agg #[.int .i64 1, .int .i64 1])).run Try.prog w = .ok (.bool false) w := fun _ => by kernel_rfl
  go_enter Try.func49, Try.ntmps49
  go_wp2
  have HI0 : Hid (TwI w (w.alloc (.cells (madeCells #[.int .i64 0, .int .i64 0] (n * 2)) 75)) w.heap.size X (Kn.offs (Kn.strandsL X) 0)) := Lib.hid ⟨(Fr.refl _ w).alloc _, Nat.le_refl _, by
    rw [← HN.out, Kn.offs_zero]; exact rowIs_made75 w (n * 2) _ fun j _ => by unfold cntF two2; exact Kn.cntV_zero _ _⟩
  go_loopw [17] (fun i wr => ∃ q : Nat, q ≤ np ∧ i = .int .i64 q ∧ Hid (TwI w wr w.heap.size X (Kn.offs (Kn.strandsL X) q))) (fun i _ => np - (intOf i).toNat)
  case atStart => exact ⟨0, by omega, rfl, HI0⟩
  case round =>
    obtain ⟨q, hq, rfl, HI⟩ := hrel
    by_cases hlt : q < np
    · have hqP : q < (Kn.strandsL X).length := by have := HNP.out; omega
      have hrows := HV.out.new HI.out.new fun _ _ hn => HI.out.new.owns hn fun _ _ x => x
      obtain ⟨g, c, u, he, hcell, hown⟩ := hrows.at (i := q) (by rw [visL_len]; exact hqP)
      rw [visL_len, ← HNP.out] at he
      cases he
      rw [visL_at hqP] at hown
      obtain ⟨a2, c2, rfl⟩ := OwnVs.sl hown
      obtain ⟨fl, HFL⟩ : ∃ m, Hid (m = (Kn.strandsL X)[q].length) := ⟨_, Lib.hid rfl⟩
      rw [List.length_map, ← HFL.out] at hcell hown
      have i1 : (0 : Int) ≤ (q : Int) := by omega
      have i2 : (q : Int) < (np : Int) := by omega
      have hfl : fl ≤ 32 := by have := part_few HX.out hqP; have := HFL.out; have := HM.out; omega
      have HOW := Lib.hid hown
      clear hown hrows
      go_wp2
      clear hcell
      obtain ⟨wo, rfl⟩ : ∃ wo, wo = wr := ⟨_, rfl⟩
      go_loopw [23] (fun i wr => ∃ k : Nat, k ≤ fl ∧ i = .int .i64 k ∧ Hid (TwI w wr w.heap.size X (Kn.offs (Kn.strandsL X) q + k)) ∧ Hid (OwnVs wr (.slice a2 fl c2) ((Kn.strandsL X)[q].map (visA X)))) (fun i _ => fl - (intOf i).toNat)
      case atStart => exact ⟨0, by omega, rfl, HI, HOW⟩
      case round =>
        obtain ⟨k, hk, rfl, HIk, HOk⟩ := hrel
        by_cases hkf : k < fl
        · have hkF : k < (Kn.strandsL X)[q].length := by have := HFL.out; omega
          obtain ⟨g3, c3, he3, hc3, hd3⟩ := HOk.out.at (i := k) (by rw [List.length_map]; exact hkF)
          rw [List.length_map, ← HFL.out] at he3
          cases he3
          simp only [List.getElem_map] at hc3 hd3
          rw [vis_at hqP hkF] at hc3 hd3
          have ht := time_lt HX.out hqP hkF
          obtain ⟨pc, o, hp⟩ : ∃ pc o, Kn.vis X (Kn.offs (Kn.strandsL X) q + k) = (pc, o) := ⟨_, _, rfl⟩
          rw [hp] at hc3 hd3
          simp only at hc3 hd3
          obtain ⟨hpc, hrc, hfz⟩ := HIk.out.read HX.out ht hp
          rw [← HN.out] at hpc
          have HPUT := Lib.hid fun (wx : World) (hw : New wr wx) => (HIk.out.nw hw).put HX.out ht hp
          have HOT := Lib.hid fun (wx : World) (hw : Fr (fun j => j = w.heap.size) wr wx) => (hw.owns HOk.out (own_ne HOk.out HIk.out.row (by decide)) : OwnVs wx _ _)
          have i3 : (0 : Int) ≤ (k : Int) := by omega
          have i4 : (k : Int) < (fl : Int) := by omega
          have i5 : (0 : Int) ≤ (pc : Int) := by omega
          have i6 : (pc : Int) < (n : Int) := by omega
          clear hp ht
          cases o
          · simp only [oN, Bool.false_eq_true, if_false, Nat.add_zero] at hrc hfz HPUT
            go_wp2_with fail
            obtain ⟨w2, hw2⟩ : ∃ w2, w2 = wr.alloc (.cells #[.int .i64 pc, .bool false] 74) := ⟨_, rfl⟩
            have hN2 : New wr w2 := by rw [hw2]; exact (Fr.refl _ wr).alloc _
            have b1 : w2.cell? ⟨wr.heap.size, 0, none⟩ = some (.int .i64 pc) := by rw [hw2]; exact cell_of_row _ _ 0 _ 74 (0, 0) (heap_alloc_new _ _)
            have b2 : w2.cell? ⟨wr.heap.size, 1, none⟩ = some (.bool false) := by rw [hw2]; exact cell_of_row _ _ 1 _ 74 (0, 0) (heap_alloc_new _ _)
            have k1 := hN2.cell hrc fun x => x
            have k2 : w2.frozen? ⟨w.heap.size, pc * 2, none⟩ = false := (hN2.row HIk.out.row fun x => x).frozen _
            have HP2 := Lib.hid (HPUT.out w2 hN2)
            have HFR : Hid (Fr (fun j => j = w.heap.size) wr (w2.setCell ⟨w.heap.size, pc * 2, none⟩ (.int .i64 (1 : Nat)))) := Lib.hid (Fr.setCell (S := fun j => j = w.heap.size) (hN2.mono fun _ h => h.elim) (a := ⟨w.heap.size, pc * 2, none⟩) (.inl rfl) _)
            rw [← hw2]
            clear hw2 hN2 hrc hfz hc3 hd3
            go_wp2
            go_region
            go_wp2
            go_roundw
            case rel => exact ⟨k + 1, by omega, by go_num, Lib.hid ((HP2.out).nw (Fr.refl _ _).drew), Lib.hid (HOT.out _ HFR.out.drew)⟩
            case measure => simp [intOf]; omega
          · simp only [oN, if_true] at hrc hfz HPUT
            go_wp2_with fail
            obtain ⟨w2, hw2⟩ : ∃ w2, w2 = wr.alloc (.cells #[.int .i64 pc, .bool true] 74) := ⟨_, rfl⟩
            have hN2 : New wr w2 := by rw [hw2]; exact (Fr.refl _ wr).alloc _
            have b1 : w2.cell? ⟨wr.heap.size, 0, none⟩ = some (.int .i64 pc) := by rw [hw2]; exact cell_of_row _ _ 0 _ 74 (0, 0) (heap_alloc_new _ _)
            have b2 : w2.cell? ⟨wr.heap.size, 1, none⟩ = some (.bool true) := by rw [hw2]; exact cell_of_row _ _ 1 _ 74 (0, 0) (heap_alloc_new _ _)
            have k1 := hN2.cell hrc fun x => x
            have k2 : w2.frozen? ⟨w.heap.size, pc * 2 + 1, none⟩ = false := (hN2.row HIk.out.row fun x => x).frozen _
            have HP2 := Lib.hid (HPUT.out w2 hN2)
            have HFR : Hid (Fr (fun j => j = w.heap.size) wr (w2.setCell ⟨w.heap.size, pc * 2 + 1, none⟩ (.int .i64 (1 : Nat)))) := Lib.hid (Fr.setCell (S := fun j => j = w.heap.size) (hN2.mono fun _ h => h.elim) (a := ⟨w.heap.size, pc * 2 + 1, none⟩) (.inl rfl) _)
            rw [← hw2]
            clear hw2 hN2 hrc hfz hc3 hd3
            go_wp2
            go_region
            go_wp2
            go_roundw
            case rel => exact ⟨k + 1, by omega, by go_num, Lib.hid ((HP2.out).nw (Fr.refl _ _).drew), Lib.hid (HOT.out _ HFR.out.drew)⟩
            case measure => simp [intOf]; omega
        · obtain rfl : k = fl := by omega
          have HST : Hid (Kn.offs (Kn.strandsL X) q + k = Kn.offs (Kn.strandsL X) (q + 1)) := Lib.hid (by rw [Kn.offs_succ hqP, HFL.out])
          go_wp2
          go_roundw
          case rel => exact ⟨q + 1, by omega, by go_num, Lib.hid (by rw [← HST.out]; exact HIk.out)⟩
          case measure => simp [intOf]; omega
    · obtain rfl : q = np := by omega
      have HALL : Hid (TwI w wr w.heap.size X (Kn.nArcs X)) := Lib.hid (by
        have := HI.out
        rwa [HNP.out, Kn.offs_all, Kn.flat_len HX.out] at this)
      go_wp2
      clear HI
      obtain ⟨wo, rfl⟩ : ∃ wo, wo = wr := ⟨_, rfl⟩
      go_loopw [43] (fun i wr => ∃ k : Nat, k ≤ n ∧ i = .int .i64 k ∧ Hid (TwI w wr w.heap.size X (Kn.nArcs X))) (fun i _ => n - (intOf i).toNat)
      case atStart => exact ⟨0, by omega, rfl, HALL⟩
      case round =>
        obtain ⟨k, hk, rfl, HK⟩ := hrel
        by_cases hkn : k < n
        · have hkX : k < X.length := by have := HN.out; omega
          have c0 : wr.cell? ⟨w.heap.size, k * 2, none⟩ = some (.int .i64 1) := by
            have := HK.out.row.cell (i := k * 2 + 0) (by omega)
            unfold numFn cntF at this
            rw [two2_at _ (by omega), Kn.cntV_all HX.out hkX] at this
            exact this
          have c1 : wr.cell? ⟨w.heap.size, k * 2 + 1, none⟩ = some (.int .i64 1) := by
            have := HK.out.row.cell (i := k * 2 + 1) (by omega)
            unfold numFn cntF at this
            rw [two2_at _ (by omega), Kn.cntV_all HX.out hkX] at this
            exact this
          have i1 : (0 : Int) ≤ (k : Int) := by omega
          have i2 : (k : Int) < (n : Int) := by omega
          go_wp2
          go_roundw
          case rel => exact ⟨k + 1, by omega, by go_num, Lib.hid (HK.out.nw ((Fr.refl _ _).alloc _))⟩
          case measure => simp [intOf]; omega
        · obtain rfl : k = n := by omega
          go_wp2
          go_ret
          exact ⟨rfl, HK.out.new⟩
end Go.Proofs.Ytgjmjbgicfkojaa
