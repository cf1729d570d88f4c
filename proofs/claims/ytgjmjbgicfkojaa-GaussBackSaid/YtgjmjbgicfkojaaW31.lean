/- Walks: the law CodeDarts. -/
import Derived.Test.YtgjmjbgicfkojaaW30
namespace Go.Proofs.Ytgjmjbgicfkojaa
open Go.RowKit

theorem dcells_at : ∀ {l : List Kn.Dt} {i : Nat} (hi : i < l.length), (dcells l)[i * 2]? = some (.int .i64 (l[i].1 : Nat)) ∧ (dcells l)[i * 2 + 1]? = some (.bool l[i].2)
  | d :: l, 0, _ => ⟨rfl, rfl⟩
  | d :: l, i + 1, hi => by
    have e : dcells (d :: l) = [.int .i64 (d.1 : Nat), .bool d.2] ++ dcells l := rfl
    have := dcells_at (l := l) (i := i) (by simpa using hi)
    rw [e, List.getElem?_append_right (by simp; omega), List.getElem?_append_right (by simp; omega), show (i + 1) * 2 - [Value.int .i64 (d.1 : Nat), .bool d.2].length = i * 2 by simp; omega, show (i + 1) * 2 + 1 - [Value.int .i64 (d.1 : Nat), .bool d.2].length = i * 2 + 1 by simp; omega]
    exact this
theorem OwnD.at {w : World} {v : Value} {l : List Kn.Dt} (h : OwnD w v l) {i : Nat} (hi : i < l.length) :
    ∃ g c, v = .slice (some ⟨g, 0, none⟩) l.length c ∧ w.cell? ⟨g, i * 2, none⟩ = some (.int .i64 (l[i].1 : Nat)) ∧ w.cell? ⟨g, i * 2 + 1, none⟩ = some (.bool l[i].2) := by
  obtain ⟨e1, e2⟩ := dcells_at hi
  rcases h.2 with ⟨rfl, h0⟩ | ⟨g, cap, cur, rfl, hb, hg, h1, h2, h3, h4⟩
  · omega
  · refine ⟨g, cap, rfl, ?_, ?_⟩
    · have := World.ownsRow.cells h (g := g) rfl _ _ e1
      rwa [addr_add, Nat.zero_add] at this
    · have := World.ownsRow.cells h (g := g) rfl _ _ e2
      rwa [addr_add, Nat.zero_add] at this
theorem OwnD.sl {w : World} {v : Value} {l : List Kn.Dt} (h : OwnD w v l) : ∃ a c, v = .slice a l.length c := by
  obtain ⟨a, c, rfl, _⟩ := own_shape2 (show w.ownsRow 0 34 2 v l.length (dcells l) from h)
  exact ⟨a, c, rfl⟩
/- the darts of the first faces -/
def dnL (P : List (List Kn.Dt)) (i k : Nat) : List Kn.Dt := (P.take i).flatten ++ ((P.getD i []).take k)
theorem dnL_step {P : List (List Kn.Dt)} {i k : Nat} (hi : i < P.length) (hk : k < P[i].length) : dnL P i (k + 1) = dnL P i k ++ [P[i][k]] := by
  unfold dnL
  rw [List.getD_eq_getElem?_getD, List.getElem?_eq_getElem hi]
  simp only [Option.getD_some]
  rw [List.take_succ_eq_append_getElem hk, List.append_assoc]
theorem dnL_next {P : List (List Kn.Dt)} {i : Nat} (hi : i < P.length) : dnL P i P[i].length = dnL P (i + 1) 0 := by
  unfold dnL
  rw [List.getD_eq_getElem?_getD, List.getElem?_eq_getElem hi]
  simp only [Option.getD_some]
  rw [List.take_length, List.take_zero, List.append_nil, List.take_succ_eq_append_getElem hi, List.flatten_append]
  simp
theorem dnL_all (P : List (List Kn.Dt)) : dnL P P.length 0 = P.flatten := by
  unfold dnL; simp
theorem dnL_pre {P : List (List Kn.Dt)} {i k : Nat} (hi : i < P.length) : dnL P i k <+: P.flatten := by
  have e : P.flatten = (P.take i).flatten ++ (P[i] ++ (P.drop (i + 1)).flatten) := by
    conv => lhs; rw [← List.take_append_drop i P, List.flatten_append, List.drop_eq_getElem_cons hi, List.flatten_cons]
  unfold dnL
  rw [e, List.getD_eq_getElem?_getD, List.getElem?_eq_getElem hi]
  simp only [Option.getD_some]
  exact (List.prefix_append_right_inj _).2 ((List.take_prefix k _).trans (List.prefix_append _ _))
/- a dart's mark -/
def dcode (d : Kn.Dt) : Nat := 2 * d.1 + if d.2 then 1 else 0
theorem dcode_inj {d e : Kn.Dt} (h : dcode d = dcode e) : d = e := by
  obtain ⟨a, b⟩ := d
  obtain ⟨a', b'⟩ := e
  unfold dcode at h
  have e1 : a = a' := by cases b <;> cases b' <;> simp at h <;> omega
  have e2 : b = b' := by cases b <;> cases b' <;> simp at h <;> first | rfl | omega
  rw [e1, e2]
theorem dart_new {X : List Kn.Cr} (hX : Kn.Ok X) {i k : Nat} (hi : i < (Kn.facesL X).length) (hk : k < (Kn.facesL X)[i].length) :
    Kn.isArc X (Kn.facesL X)[i][k].1 ∧ dcode (Kn.facesL X)[i][k] ∉ (dnL (Kn.facesL X) i k).map dcode ∧ (dnL (Kn.facesL X) i k).length < 4 * X.length := by
  have hp := Kn.faces_perm hX
  have hm : (Kn.facesL X)[i][k] ∈ (Kn.facesL X).flatten := List.mem_flatten.2 ⟨_, List.getElem_mem hi, List.getElem_mem hk⟩
  have hn : (Kn.facesL X).flatten.Nodup := hp.nodup_iff.2 (Kn.darts_nodup X)
  have h1 : (dnL (Kn.facesL X) i (k + 1)).Nodup := hn.sublist (dnL_pre hi).sublist
  have h2 := (dnL_pre (P := Kn.facesL X) (k := k + 1) hi).length_le
  rw [hp.length_eq, Kn.darts_length] at h2
  rw [dnL_step hi hk] at h1 h2
  rw [List.nodup_append] at h1
  refine ⟨Kn.mem_darts.1 (hp.mem_iff.1 hm), fun h => ?_, by simp at h2; omega⟩
  obtain ⟨e, he, h3⟩ := List.mem_map.1 h
  exact h1.2.2 e he _ (by simp) (dcode_inj h3)
structure CdI (w wr : World) (sb : Nat) (X : List Kn.Cr) (done : List Kn.Dt) (vf : Value) : Prop where
  new : New w wr
  lb : w.heap.size ≤ sb
  row : wr.rowIs sb 4 (4 * X.length + 2) (boolFn fun j => decide (j ∈ done.map dcode))
  rows : Rows OwnD 0 32 wr vf (Kn.facesL X)
theorem CdI.nw {w wr w' : World} {sb : Nat} {X : List Kn.Cr} {done : List Kn.Dt} {vf : Value} (h : CdI w wr sb X done vf) (hf : New wr w') : CdI w w' sb X done vf :=
  ⟨h.new.trans hf, h.lb, hf.row h.row fun x => x, RowsD.new h.rows hf⟩
theorem CdI.put {w wr : World} {sb : Nat} {X : List Kn.Cr} {done : List Kn.Dt} {vf : Value} (h : CdI w wr sb X done vf) {c : Nat} {d : Kn.Dt} (hc : c = dcode d) : CdI w (wr.setCell ⟨sb, c, none⟩ (.bool true)) sb X (done ++ [d]) vf := by
  have hF : Fr (fun j => j = sb) wr (wr.setCell ⟨sb, c, none⟩ (.bool true)) := (Fr.refl (fun j => j = sb) wr).setCell (a := ⟨sb, c, none⟩) (.inl rfl) _
  refine ⟨h.new.next hF fun i hi => .inr (by rw [hi]; exact h.lb), h.lb, ?_, ?_⟩
  · have := marks_set h.row c
    rw [List.map_append, List.map_singleton, ← hc]
    exact this
  · obtain ⟨vs, h1, h2⟩ := h.rows
    exact ⟨vs, hF.owns h1 (own_ne h1 h.row (by decide)), h2.mono fun v l hn => hF.owns hn (own_ne (show wr.ownsRow 0 34 2 v l.length (dcells l) from hn) h.row (by decide))⟩
theorem faces_len (X : List Kn.Cr) : (Kn.facesL X).length ≤ 4 * X.length := by
  have h1 := Kn.rings_len (Kn.left X) (4 * X.length + 1) (Kn.darts X) []
  rw [Kn.darts_length] at h1
  exact h1

set_option maxRecDepth 100000 in
set_option maxHeartbeats 8000000 in
theorem darts_any (a : Option Addr) (n c : Nat) (X : List Kn.Cr) (L : Int) (w : World) (hx : CrsAt w a X) (hn : n = X.length) (lx : n ≤ 9223372036854775807) (l1 : -9223372036854775808 ≤ L) (l2 : L ≤ 9223372036854775807) :
    Calls Try.prog 3 #[.agg #[.slice a n c, .int .i64 L]] w (fun e w' => e = .returned (.bool true) ∧ New w w') := by
  have HN := Lib.hid hn
  have HX := Lib.hid hx
  clear hx hn
  by_cases hm : Kn.mayB X L = true
  · have HM := Lib.hid hm
    have HOK := Lib.hid (mayB_ok hm)
    have hn16 : n ≤ 16 := by have := HN.out; have := HOK.out.2; omega
    obtain ⟨nf, HNF⟩ : ∃ nf, Hid (nf = (Kn.facesL X).length) := ⟨_, Lib.hid rfl⟩
    have hnf : nf ≤ 64 := by have := HNF.out; have := faces_len X; have := HN.out; omega
    clear hm
    have hmk : ∀ w, (Instr.makeSlice 31 (.int .i64 (4 * (n : Int) + 2)) (.int .i64 (4 * (n : Int) + 2))).run Try.prog w = .ok (.slice (some ⟨w.heap.size, 0, none⟩) (4 * n + 2) (4 * n + 2)) (w.alloc (.cells (madeCells #[.bool false] (4 * n + 2)) 4)) := fun w => by
      have := run_make_row' (P := Try.prog) 31 4 (.bool false) 1 Try.underlying31 Try.info4 rfl .i64 .i64 (4 * n + 2) (by omega) (by omega) w
      rwa [show (((4 * n + 2 : Nat)) : Int) = 4 * (n : Int) + 2 by omega] at this
    go_enter Try.func3, Try.ntmps3
    go_wp2_with (first
      | (go_at_call 7; refine (awake_any _).mono ?_; rintro e w1 ⟨rfl, hN⟩; have HN1 : Hid (New w w1) := Lib.hid (((Fr.refl _ w).alloc _).trans hN); obtain ⟨p1, p2, _, _⟩ := box2_c (hN.blk (heap_alloc_new w (.cells #[.slice a n c, .int .i64 L] 24)) fun x => x); clear hN)
      | (go_at_call 8; refine (cfaces_any a n c X L _ (New.crs HN1.out HX.out) HN.out lx l1 l2).mono ?_; rintro e w2 ⟨hN, h5⟩; obtain ⟨_, v2, rfl, hr⟩ := h5.resolve_right (fun h => by have h1 := h.1; rw [HM.out] at h1; cases h1); obtain ⟨a2, c2, rfl⟩ := hr.sl; rw [← HNF.out]; have HR2 := Lib.hid hr; have HN2 := Lib.hid (HN1.out.trans hN); have q1 := hN.cell p1 fun x => x; have q2 := hN.cell p2 fun x => x; clear hN hr h5)
      | (go_at_call 9; refine (may_any a n c X L _ (New.crs HN2.out HX.out) HN.out lx l1 l2).mono ?_; rintro e w3 ⟨rfl, hN⟩; rw [HM.out]; have HR3 := Lib.hid (RowsD.new HR2.out hN); have HN3 := Lib.hid (HN2.out.trans hN); have r1 := hN.cell q1 fun x => x; have r2 := hN.cell q2 fun x => x; clear hN))
    have H0 : Hid (CdI w (w3.alloc (.cells (madeCells #[.bool false] (4 * n + 2)) 4)) w3.heap.size X (dnL (Kn.facesL X) 0 0) (.slice a2 nf c2)) := Lib.hid ⟨HN3.out.alloc _, HN3.out.size, by rw [← HN.out]; exact marks_made w3 (4 * n + 2), by have := HR3.out.base0; exact RowsD.new (by rw [HNF.out]; exact this) ((Fr.refl _ _).alloc _)⟩
    have HR1 : Hid ((w3.alloc (.cells (madeCells #[.bool false] (4 * n + 2)) 4)).cell? ⟨w.heap.size, 0, none⟩ = some (.slice a n c)) := Lib.hid (cell_alloc r1 _)
    clear r1 r2 p1 p2 q1 q2
    go_loopw [7, 8] (fun m i wr => ∃ q mm : Nat, q ≤ nf ∧ i = .int .i64 q ∧ m = .int .i64 mm ∧ mm ≤ 64 ∧ Hid (mm = (dnL (Kn.facesL X) q 0).length) ∧ Hid (CdI w wr w3.heap.size X (dnL (Kn.facesL X) q 0) (.slice a2 nf c2))) (fun _ i _ => nf - (intOf i).toNat)
    case atStart => exact ⟨0, 0, by omega, rfl, rfl, by omega, Lib.hid rfl, H0⟩
    case round =>
      obtain ⟨q, mm, hq, rfl, rfl, hmm, HMM, HI⟩ := hrel
      by_cases hqf : q < nf
      · have hqF : q < (Kn.facesL X).length := by have := HNF.out; omega
        obtain ⟨fl, HFL⟩ : ∃ fl, Hid (fl = (Kn.facesL X)[q].length) := ⟨_, Lib.hid rfl⟩
        have i1 : (0 : Int) ≤ (q : Int) := by omega
        have i2 : (q : Int) < (nf : Int) := by omega
        have hfl : fl ≤ 64 := by
          have h1 := (List.sublist_flatten_of_mem (List.getElem_mem hqF)).length_le
          rw [(Kn.faces_perm HOK.out.1).length_eq, Kn.darts_length] at h1
          have := HFL.out
          have := HN.out
          omega
        go_wp2
        obtain ⟨wo, rfl⟩ : ∃ wo, wo = wr := ⟨_, rfl⟩
        go_loopw [7, 9] (fun m k wr => ∃ j mj : Nat, j ≤ fl ∧ k = .int .i64 j ∧ m = .int .i64 mj ∧ mj ≤ 64 ∧ Hid (mj = (dnL (Kn.facesL X) q j).length) ∧ Hid (CdI w wr w3.heap.size X (dnL (Kn.facesL X) q j) (.slice a2 nf c2))) (fun _ k _ => fl - (intOf k).toNat)
        case atStart => exact ⟨0, mm, by omega, rfl, rfl, hmm, HMM, HI⟩
        case round =>
          obtain ⟨j, mj, hj, rfl, rfl, hmj, HMJ, HJ⟩ := hrel
          obtain ⟨g, c5, u, he, hcell, hown⟩ := HJ.out.rows.at hqF
          rw [← HNF.out] at he
          cases he
          obtain ⟨a6, c6, rfl⟩ := hown.sl
          rw [← HFL.out] at hcell
          by_cases hjf : j < fl
          · have hjF : j < (Kn.facesL X)[q].length := by have := HFL.out; omega
            obtain ⟨g6, c7, he, hc1, hc2⟩ := hown.at hjF
            cases he
            obtain ⟨da, HDA⟩ : ∃ da, Hid (da = (Kn.facesL X)[q][j].1) := ⟨_, Lib.hid rfl⟩
            obtain ⟨db, HDB⟩ : ∃ db, Hid (db = (Kn.facesL X)[q][j].2) := ⟨_, Lib.hid rfl⟩
            rw [← HDA.out] at hc1
            rw [← HDB.out] at hc2
            obtain ⟨e1, e2, e3⟩ := dart_new HOK.out.1 hqF hjF
            have HD : Hid ((da, db) = (Kn.facesL X)[q][j]) := Lib.hid (by rw [HDA.out, HDB.out])
            rw [← HD.out] at e1 e2
            have d1 : 1 ≤ da := e1.1
            have d2 : da ≤ 2 * n := by have := e1.2; unfold Kn.nArcs at this; have := HN.out; omega
            have hmj' : mj < 64 := by have := HMJ.out; have := HOK.out.2; omega
            have i3 : (0 : Int) ≤ (j : Int) := by omega
            have i4 : (j : Int) < (fl : Int) := by omega
            have hrow := HJ.out.row.cell (i := dcode (da, db)) (by have := HN.out; unfold dcode; simp only; cases db <;> simp <;> omega)
            simp only [boolFn] at hrow
            rw [decide_eq_false e2] at hrow
            have hfz := HJ.out.row.frozen (dcode (da, db))
            have hrow1 := cell_alloc hrow (.cells #[.int .i64 da, .bool db] 34)
            have hfz1 := (HJ.out.row.alloc (.cells #[.int .i64 da, .bool db] 34)).frozen (dcode (da, db))
            clear e1 e2 e3 hown hrow
            have HST : Hid (CdI w ((wr.alloc (.cells #[.int .i64 da, .bool db] 34)).setCell ⟨w3.heap.size, dcode (da, db), none⟩ (.bool true)) w3.heap.size X (dnL (Kn.facesL X) q (j + 1)) (.slice (some ⟨g, 0, none⟩) nf c2)) := Lib.hid (by
              rw [dnL_step hqF hjF, ← HD.out]
              exact (HJ.out.nw ((Fr.refl _ wr).alloc _)).put rfl)
            have HML : Hid (mj + 1 = (dnL (Kn.facesL X) q (j + 1)).length) := Lib.hid (by rw [dnL_step hqF hjF, List.length_append, ← HMJ.out]; rfl)
            cases db <;> simp only [dcode, Bool.false_eq_true, if_true, if_false, Nat.add_zero] at hrow1 hfz1 HST
            · go_wp2
              go_roundw
              case rel => exact ⟨j + 1, mj + 1, by omega, by go_num, by go_num, by omega, HML, HST⟩
              case measure => simp [intOf]; omega
            · go_wp2
              go_roundw
              case rel => exact ⟨j + 1, mj + 1, by omega, by go_num, by go_num, by omega, HML, HST⟩
              case measure => simp [intOf]; omega
          · obtain rfl : j = fl := by omega
            clear hown
            go_wp2
            go_roundw
            case rel => exact ⟨q + 1, mj, by omega, by go_num, rfl, hmj, Lib.hid (by rw [← dnL_next hqF, ← HFL.out]; exact HMJ.out), Lib.hid (by rw [← dnL_next hqF, ← HFL.out]; exact HJ.out)⟩
            case measure => simp [intOf]; omega
      · obtain rfl : q = nf := by omega
        have hmn : mm = 4 * n := by
          have h1 := HMM.out
          rw [HNF.out, dnL_all, (Kn.faces_perm HOK.out.1).length_eq, Kn.darts_length] at h1
          rw [h1, HN.out]
        subst hmn
        go_wp2
        go_ret
        exact ⟨rfl, HI.out.new⟩
  · have hm' : Kn.mayB X L = false := by rw [Bool.eq_false_iff]; exact hm
    have HM := Lib.hid hm'
    clear hm hm'
    go_enter Try.func3, Try.ntmps3
    go_wp2_with (first
      | (go_at_call 7; refine (awake_any _).mono ?_; rintro e w1 ⟨rfl, hN⟩; have HN1 : Hid (New w w1) := Lib.hid (((Fr.refl _ w).alloc _).trans hN); obtain ⟨p1, p2, _, _⟩ := box2_c (hN.blk (heap_alloc_new w (.cells #[.slice a n c, .int .i64 L] 24)) fun x => x); clear hN)
      | (go_at_call 8; refine (cfaces_any a n c X L _ (New.crs HN1.out HX.out) HN.out lx l1 l2).mono ?_; rintro e w2 ⟨hN, h5⟩; obtain ⟨_, rfl⟩ := h5.resolve_left (fun h => by have h1 := h.1; rw [HM.out] at h1; cases h1); have HN2 := Lib.hid (HN1.out.trans hN); have q1 := hN.cell p1 fun x => x; have q2 := hN.cell p2 fun x => x; clear hN h5)
      | (go_at_call 9; refine (may_any a n c X L _ (New.crs HN2.out HX.out) HN.out lx l1 l2).mono ?_; rintro e w3 ⟨rfl, hN⟩; rw [HM.out]; have HN3 := Lib.hid (HN2.out.trans hN); clear hN))
    go_ret
    exact ⟨rfl, HN3.out⟩
end Go.Proofs.Ytgjmjbgicfkojaa
