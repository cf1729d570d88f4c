/- Walks: visits. -/
import Derived.Test.YtgjmjbgicfkojaaW16
import Derived.Test.YtgjmjbgicfkojaaMAll
namespace Go.Proofs.Ytgjmjbgicfkojaa
open Go.RowKit

theorem Try.info74 : (Try.prog.info? 74).map (fun i => (i.zero, i.size, i.bytes)) = some (some (.agg #[.int .i64 0, .bool false]), 2, 16) := by kernel_rfl
theorem Try.info72 : (Try.prog.info? 72).map (fun i => (i.zero, i.size, i.bytes)) = some (some (.slice none 0 0), 1, 24) := by kernel_rfl
/- visits in memory: a row of two cells each -/
def OwnVs (w : World) (v : Value) (l : List Kn.Dt) : Prop := w.ownsRow 0 74 2 v l.length (dcells l)
def visA (X : List Kn.Cr) (a : Nat) : Kn.Dt := ((Kn.endP X true a).1, decide ((Kn.endP X true a).2 ≠ 0))
def visL (X : List Kn.Cr) : List (List Kn.Dt) := (Kn.strandsL X).map fun r => r.map (visA X)
theorem OwnVs.sl {w : World} {v : Value} {l : List Kn.Dt} (h : OwnVs w v l) : ∃ a c, v = .slice a l.length c := by
  obtain ⟨a, c, rfl, _⟩ := own_shape2 (show w.ownsRow 0 74 2 v l.length (dcells l) from h)
  exact ⟨a, c, rfl⟩
structure VI (w1 wr : World) (X : List Kn.Cr) (q : Nat) (o : Value) : Prop where
  new : New w1 wr
  out : Rows OwnVs w1.heap.size 72 wr o ((visL X).take q)
structure VJ (wo wr : World) (X : List Kn.Cr) (r : List Nat) (k : Nat) (s : Value) : Prop where
  new : New wo wr
  ring : wr.ownsRow wo.heap.size 74 2 s k (dcells ((r.map (visA X)).take k))
def GaveVis (X : List Kn.Cr) (w : World) (e : Ending) (w' : World) : Prop := ∃ v, e = .returned v ∧ Rows OwnVs w.heap.size 72 w' v (visL X) ∧ New w w'

set_option maxRecDepth 100000 in
set_option maxHeartbeats 4000000 in
theorem visits_any (b : Nat) (X : List Kn.Cr) (L : Int) (w : World) (h : ShAt w b X L) (hX : Kn.Ok X) (hl : X.length ≤ 16) :
    Calls Try.prog 28 #[.pointer (some ⟨b, 0, none⟩)] w (GaveVis X w) := by
  obtain ⟨m, hm⟩ : ∃ m, m = Kn.nArcs X := ⟨_, rfl⟩
  have hm32 : m ≤ 32 := by rw [hm]; unfold Kn.nArcs; omega
  have HM := Lib.hid hm
  have HS := Lib.hid h
  have HX := Lib.hid hX
  obtain ⟨np, HNP⟩ : ∃ np, Hid (np = (Kn.strandsL X).length) := ⟨_, Lib.hid rfl⟩
  have hnp : np ≤ 32 := by
    have h1 := Kn.rings_len (Kn.nextA X) (Kn.nArcs X + 1) (Kn.arcs X) []
    rw [Kn.arcs_length] at h1
    have := HNP.out; unfold Kn.strandsL at this; omega
  obtain ⟨I0, hi, hz0, hz1, hz2⟩ := info_parts Try.info74
  obtain ⟨I1, hi1, hz10, hz11, hz12⟩ := info_parts Try.info72
  clear h hX hm
  go_enter Try.func28, Try.ntmps28
  go_wp2_with fail
  refine (strands_any b X L _ HS.out HX.out hl).mono ?_
  rintro e w1 ⟨v, rfl, hr, hF⟩
  obtain ⟨a1, c1, rfl⟩ := hr.sl
  rw [← HNP.out]
  have HR1 : Hid (Rows OwnN w.heap.size 35 w1 (.slice a1 np c1) (Kn.strandsL X)) := Lib.hid (by rw [HNP.out]; exact hr)
  have HF1 := Lib.hid hF
  have HI0 : Hid (VI w1 w1 X 0 (.slice none 0 0)) := Lib.hid ⟨Fr.refl _ _, by rw [List.take_zero]; exact Rows.nil⟩
  clear hr hF
  go_wp2
  go_loopw [3, 13] (fun o i wr => ∃ q : Nat, q ≤ np ∧ i = .int .i64 q ∧ Hid (VI w1 wr X q o)) (fun _ i _ => np - (intOf i).toNat)
  case atStart => exact ⟨0, by omega, rfl, HI0⟩
  case round =>
    obtain ⟨q, hq, rfl, HI⟩ := hrel
    by_cases hlt : q < np
    · have hqP : q < (Kn.strandsL X).length := by have := HNP.out; omega
      have hrows := HR1.out.new HI.out.new fun _ _ hn => HI.out.new.owns hn fun _ _ x => x
      obtain ⟨g, c, u, he, hcell, hown⟩ := hrows.at hqP
      rw [← HNP.out] at he
      cases he
      obtain ⟨a2, c2, rfl⟩ := hown.sl
      obtain ⟨fl, HFL⟩ : ∃ m, Hid (m = (Kn.strandsL X)[q].length) := ⟨_, Lib.hid rfl⟩
      rw [← HFL.out] at hcell
      have i1 : (0 : Int) ≤ (q : Int) := by omega
      have i2 : (q : Int) < (np : Int) := by omega
      have hfl : fl ≤ 32 := by
        have h1 := (List.sublist_flatten_of_mem (List.getElem_mem hqP)).length_le
        rw [(Kn.strands_perm HX.out).length_eq, Kn.arcs_length] at h1
        have := HFL.out; have := HM.out; omega
      have HOW : Hid (OwnN wr (.slice a2 fl c2) (Kn.strandsL X)[q]) := Lib.hid (by rw [HFL.out]; exact hown)
      clear hown hrows
      go_wp2
      clear hcell
      obtain ⟨wo, rfl⟩ : ∃ wo, wo = wr := ⟨_, rfl⟩
      go_loopw [6, 19] (fun s i wr => ∃ k : Nat, k ≤ fl ∧ i = .int .i64 k ∧ Hid (VJ wo wr X (Kn.strandsL X)[q] k s)) (fun _ i _ => fl - (intOf i).toNat)
      case atStart => exact ⟨0, by omega, rfl, Lib.hid ⟨Fr.refl _ _, ⟨rfl, .inl ⟨rfl, rfl⟩⟩⟩⟩
      case round =>
        obtain ⟨k, hk, rfl, HJ⟩ := hrel
        by_cases hkf : k < fl
        · have hkF : k < (Kn.strandsL X)[q].length := by have := HFL.out; omega
          obtain ⟨g3, c3, he3, hc3⟩ := (show OwnN wr (.slice a2 fl c2) (Kn.strandsL X)[q] from HJ.out.new.owns HOW.out fun _ _ x => x).at hkF
          rw [← HFL.out] at he3
          cases he3
          obtain ⟨x, HYtgjmjbgicfkojaa⟩ : ∃ x, Hid (x = (Kn.strandsL X)[q][k]) := ⟨_, Lib.hid rfl⟩
          rw [← HYtgjmjbgicfkojaa.out] at hc3
          have har : Kn.isArc X x := by rw [HYtgjmjbgicfkojaa.out]; exact Kn.strands_arc HX.out (List.getElem_mem hqP) (List.getElem_mem hkF)
          have hpl := HX.out.isPl_end (io := true) har
          obtain ⟨pc, ps, hp⟩ : ∃ pc ps, Kn.endP X true x = (pc, ps) := ⟨_, _, rfl⟩
          rw [hp] at hpl
          obtain ⟨n, bx, ox, cc, bi, bo, r⟩ := (New.shAt ((HF1.out.trans HI.out.new).trans HJ.out.new) HS.out).read (by have := hpl.1; omega)
          have hal : x < 2 * n + 1 := by have := har.2; unfold Kn.nArcs at this; have := r.len; omega
          obtain ⟨g1, g2⟩ := r.pi x hal
          rw [show Kn.inP X x = (pc, ps) from hp] at g1 g2
          simp only at g1 g2
          have g0 := r.c2
          have j1 : (0 : Int) ≤ (x : Int) := by omega
          have j2 : (x : Int) < 2 * (n : Int) + 1 := by omega
          have i3 : (0 : Int) ≤ (k : Int) := by omega
          have i4 : (k : Int) < (fl : Int) := by omega
          obtain ⟨t, HT⟩ : ∃ t, Hid (t = decide (ps ≠ 0)) := ⟨_, Lib.hid rfl⟩
          have hne : ((ps : Int) != 0) = t := by rw [HT.out]; by_cases hz : ps = 0 <;> simp [hz]
          have HV : Hid (visA X x = (pc, t)) := Lib.hid (by unfold visA; rw [hp, HT.out])
          have HRG := Lib.hid HJ.out.ring
          obtain ⟨a8, c8, rfl, _⟩ := own_shape2 HRG.out
          clear hpl hp r har
          go_wp2_with (at_builtin; refine wpList_append_own _ rfl _ _ 72 rfl wo.heap.size 74 I0 _ 2 16 Try.underlying72 hi hz0 hz1 hz2 rfl (by decide) _ k _ rfl (World.ownsRow.alloc (World.ownsRow.alloc HRG.out _) _) ⟨wr.heap.size + 1, 0, none⟩ 1 1 [.int .i64 (pc : Int), .bool t] rfl rfl (cell_two (by simp)) (one_two _ _) (by unfold maxLen; omega) (by omega) (by have := HJ.out.new.size; simp; omega) ?_; intro v' w7 hown hgrow _; have HOW7 := Lib.hid hown; have HGR := Lib.hid hgrow; clear hown hgrow)
          go_roundw
          case rel =>
            refine ⟨k + 1, by omega, by go_num, Lib.hid ⟨((HJ.out.new.alloc _).alloc _).grown HGR.out fun k ek => .inr (own_lb HRG.out k ek), ?_⟩⟩
            have hk2 : k < ((Kn.strandsL X)[q].map (visA X)).length := by rw [List.length_map]; exact hkF
            rw [List.take_succ_eq_append_getElem hk2, dcells_snoc, List.getElem_map, ← HYtgjmjbgicfkojaa.out, HV.out]
            exact HOW7.out
          case measure => simp [intOf]; omega
        · obtain rfl : k = fl := by omega
          have HRG := Lib.hid HJ.out.ring
          obtain ⟨vs, hv1, hv2⟩ := HI.out.out
          have hvl : vs.length = q := by rw [hv2.len, List.length_take, visL, List.length_map]; omega
          have HOUT : Hid (wr.ownsRow w1.heap.size 72 1 u3 q vs) := Lib.hid (by have := HJ.out.new.owns hv1 fun _ _ x => x; rwa [hvl] at this)
          obtain ⟨a8, c8, rfl, _⟩ := own_shape2 HRG.out
          obtain ⟨a7, c7, rfl, _⟩ := own_shape2 HOUT.out
          have HV2 := Lib.hid hv2
          have HVL := Lib.hid hvl
          clear hv1 hv2 hvl
          go_wp2_with (at_builtin; refine wpList_append_own _ rfl _ _ 44 rfl w1.heap.size 72 I1 (.slice none 0 0) 1 24 Try.underlying44 hi1 hz10 hz11 hz12 rfl (by decide) _ q vs rfl (World.ownsRow.alloc HOUT.out _) ⟨wr.heap.size, 0, none⟩ 1 1 [.slice a8 k c8] rfl rfl (cell_one_new _ _ _) (one_sl _ _ _) (by unfold maxLen; omega) (by omega) (by have := HI.out.new.size; have := HJ.out.new.size; simp; omega) ?_; intro v' w7 hown hgrow _; have HOW7 := Lib.hid hown; have HGR := Lib.hid hgrow; clear hown hgrow)
          go_roundw
          case rel =>
            refine ⟨q + 1, by omega, by go_num, Lib.hid ⟨?_, ?_⟩⟩
            · exact ((HI.out.new.trans HJ.out.new).alloc _).grown HGR.out fun k ek => .inr (own_lb HOUT.out k ek)
            · rw [List.take_succ_eq_append_getElem (by unfold visL; rw [List.length_map]; exact hqP)]
              refine ⟨vs ++ [_], by rw [List.length_append, HVL.out]; exact HOW7.out, Els.snoc (Els.mono (Els.mono HV2.out fun v l hn => HJ.out.new.owns hn fun _ _ x => x) fun v l hn => own_app hn HOUT.out (by decide) HGR.out) ?_⟩
              have h1 : wr.ownsRow 0 74 2 (.slice a8 k c8) ((Kn.strandsL X)[q].map (visA X)).length (dcells ((Kn.strandsL X)[q].map (visA X))) := by
                have hk3 : ((Kn.strandsL X)[q].map (visA X)).length = k := by rw [List.length_map, HFL.out]
                have := own0 HRG.out
                rw [List.take_of_length_le (Nat.le_of_eq hk3)] at this
                rw [hk3]; exact this
              have e : (visL X)[q]'(by unfold visL; rw [List.length_map]; exact hqP) = (Kn.strandsL X)[q].map (visA X) := by simp [visL]
              rw [e]
              exact own_app h1 HOUT.out (by decide) HGR.out
          case measure => simp [intOf]; omega
    · obtain rfl : q = np := by omega
      go_wp2
      go_ret
      refine ⟨_, rfl, ?_, HF1.out.trans HI.out.new⟩
      have := HI.out.out
      rw [List.take_of_length_le (by unfold visL; rw [List.length_map, ← HNP.out]; exact Nat.le_refl _)] at this
      obtain ⟨vs, h1, h2⟩ := this
      exact ⟨vs, own_base h1 HF1.out.size, h2⟩
end Go.Proofs.Ytgjmjbgicfkojaa
