/- Walks: Parts. -/
import Derived.Test.YtgjmjbgicfkojaaW15
import Derived.Test.YtgjmjbgicfkojaaMAll
namespace Go.Proofs.Ytgjmjbgicfkojaa
open Go.RowKit

def partFn (X : List Kn.Cr) (done : List Nat) (a : Nat) : Nat := if a ∈ done then Kn.partOf X a else 0
/- rows of numbers that lie apart from the block sb -/
def OwnA (sb : Nat) (w : World) (u : Value) (l : List Nat) : Prop := OwnN w u l ∧ ∀ k, u.ownBlock = some k → ¬ k = sb
structure PtI (w wr : World) (sb : Nat) (X : List Kn.Cr) (done : List Nat) (v : Value) : Prop where
  new : New w wr
  lb : w.heap.size ≤ sb
  row : wr.rowIs sb 3 (Kn.nArcs X + 1) (numFn (partFn X done))
  rows : Rows (OwnA sb) 0 35 wr v (Kn.strandsL X)
theorem PtI.put {w wr : World} {sb : Nat} {X : List Kn.Cr} {done : List Nat} {v : Value} (h : PtI w wr sb X done v) {a i : Nat} (ha : Kn.partOf X a = i) : PtI w (wr.setCell ⟨sb, a, none⟩ (.int .i64 (i : Nat))) sb X (done ++ [a]) v := by
  have hF : Fr (fun j => j = sb) wr (wr.setCell ⟨sb, a, none⟩ (.int .i64 (i : Nat))) := (Fr.refl (fun j => j = sb) wr).setCell (a := ⟨sb, a, none⟩) (.inl rfl) _
  refine ⟨h.new.next hF fun i hi => .inr (by rw [hi]; exact h.lb), h.lb, rowIs_congr (rowIs_setN h.row a i) fun j _ => ?_, ?_⟩
  · unfold numFn partFn
    by_cases c : j = a
    · subst c; simp [ha]
    · simp [c]
  · obtain ⟨vs, h1, h2⟩ := h.rows
    exact ⟨vs, hF.owns h1 (own_ne h1 h.row (by decide)), h2.mono fun u l hn => ⟨hF.owns hn.1 hn.2, hn.2⟩⟩
theorem apart_of {w : World} {sb n : Nat} {v : Value} {l : List Nat} (h : OwnN w v l) (hr : w.rowIs sb 3 n (numFn fun _ => 0)) (h0 : ∀ x ∈ l, 1 ≤ x) (hl : l ≠ []) : ∀ k, v.ownBlock = some k → ¬ k = sb := by
  intro k hk e
  subst e
  obtain ⟨x, l', rfl⟩ : ∃ x l', l = x :: l' := by
    cases l with
    | nil => exact absurd rfl hl
    | cons x l' => exact ⟨x, l', rfl⟩
  obtain ⟨g, c, e, hc⟩ := h.at (i := 0) (by simp)
  rw [e] at hk
  obtain rfl : g = k := Option.some.inj hk
  obtain ⟨cs, h1, h2, h3⟩ := hr
  have h4 := cell_of_row w g 0 cs 3 (0, 0) h1
  have hx := h0 x (by simp)
  by_cases hn : 0 < n
  · rw [h3 0 hn] at h4
    rw [hc] at h4
    simp [numFn] at h4
    omega
  · have : cs.size = 0 := by omega
    rw [hc] at h4
    rw [Array.getElem?_eq_none (by omega)] at h4
    cases h4
theorem part_few {X : List Kn.Cr} (hX : Kn.Ok X) {i : Nat} (hi : i < (Kn.strandsL X).length) : (Kn.strandsL X)[i].length ≤ Kn.nArcs X := by
  have h1 := (List.sublist_flatten_of_mem (List.getElem_mem hi)).length_le
  rw [(Kn.strands_perm hX).length_eq, Kn.arcs_length] at h1
  exact h1
theorem strands_few (X : List Kn.Cr) : (Kn.strandsL X).length ≤ Kn.nArcs X := by
  have h1 := Kn.rings_len (Kn.nextA X) (Kn.nArcs X + 1) (Kn.arcs X) []
  rw [Kn.arcs_length] at h1
  exact h1
def GaveParts (X : List Kn.Cr) (w : World) (e : Ending) (w' : World) : Prop :=
  ∃ pb, e = .returned (.slice (some ⟨pb, 0, none⟩) (Kn.nArcs X + 1) (Kn.nArcs X + 1)) ∧ w'.rowIs pb 3 (Kn.nArcs X + 1) (numFn (partFn X (Kn.strandsL X).flatten)) ∧ New w w' ∧ w.heap.size ≤ pb

set_option maxRecDepth 100000 in
set_option maxHeartbeats 4000000 in
theorem parts_any (b : Nat) (X : List Kn.Cr) (L : Int) (w : World) (h : ShAt w b X L) (hX : Kn.Ok X) (hl : X.length ≤ 16) :
    Calls Try.prog 35 #[.pointer (some ⟨b, 0, none⟩)] w (GaveParts X w) := by
  obtain ⟨m, hm⟩ : ∃ m, m = Kn.nArcs X := ⟨_, rfl⟩
  have hm32 : m ≤ 32 := by rw [hm]; unfold Kn.nArcs; omega
  have HM := Lib.hid hm
  have HS := Lib.hid h
  have HX := Lib.hid hX
  obtain ⟨np, HNP⟩ : ∃ np, Hid (np = (Kn.strandsL X).length) := ⟨_, Lib.hid rfl⟩
  have hnp : np ≤ 32 := by have := HNP.out; have := strands_few X; omega
  clear h hX hm
  have hmk : ∀ w, (Instr.makeSlice 35 (.int .i64 ((m : Int) + 1)) (.int .i64 ((m : Int) + 1))).run Try.prog w = .ok (.slice (some ⟨w.heap.size, 0, none⟩) (m + 1) (m + 1)) (w.alloc (.cells (madeCells #[.int .i64 0] (m + 1)) 3)) := fun w => by
    have := run_make_row' (P := Try.prog) 35 3 (.int .i64 0) 8 Try.underlying35 Try.info3 rfl .i64 .i64 (m + 1) (by omega) (by omega) w
    rwa [show ((m + 1 : Nat) : Int) = (m : Int) + 1 by omega] at this
  go_enter Try.func35, Try.ntmps35
  go_wp2_with fail
  refine (arcsN' b m X L _ HS.out hl HM.out).mono ?_
  rintro e w' ⟨rfl, rfl⟩
  have HN1 : Hid (New w (w.alloc (.cells (madeCells #[.int .i64 0] (m + 1)) 3))) := Lib.hid ((Fr.refl _ w).alloc _)
  have HR1 : Hid ((w.alloc (.cells (madeCells #[.int .i64 0] (m + 1)) 3)).rowIs w.heap.size 3 (m + 1) (numFn (partFn X []))) := Lib.hid (rowIs_congr (World.rowIs_made w (.int .i64 0) (m + 1) 3) fun j _ => by unfold numFn partFn; simp)
  go_wp2_with fail
  refine (strands_any b X L _ (New.shAt HN1.out HS.out) HX.out hl).mono ?_
  rintro e w1 ⟨v, rfl, hr, hF⟩
  obtain ⟨a1, c1, rfl⟩ := hr.sl
  rw [← HNP.out]
  have HI0 : Hid (PtI w w1 w.heap.size X (doneL (Kn.strandsL X) 0 0) (.slice a1 np c1)) := Lib.hid (by
    have hr1 := hF.row HR1.out fun x => x
    refine ⟨HN1.out.trans hF, Nat.le_refl _, by rw [← HM.out]; exact hr1, ?_⟩
    obtain ⟨vs, h1, h2⟩ := hr.base0
    rw [← HNP.out] at h1
    refine ⟨vs, h1, h2.len, fun i hi hi' => ⟨h2.at_ i hi hi', ?_⟩⟩
    exact apart_of (h2.at_ i hi hi') (rowIs_congr hr1 fun j _ => by unfold numFn partFn; simp) (fun x hx => (Kn.strands_arc HX.out (List.getElem_mem hi') hx).1) (Kn.strands_ne X _ (List.getElem_mem hi')))
  clear hr hF
  go_wp2
  go_loopw [15] (fun i wr => ∃ q : Nat, q ≤ np ∧ i = .int .i64 q ∧ Hid (PtI w wr w.heap.size X (doneL (Kn.strandsL X) q 0) (.slice a1 np c1))) (fun i _ => np - (intOf i).toNat)
  case atStart => exact ⟨0, by omega, rfl, HI0⟩
  case round =>
    obtain ⟨q, hq, rfl, HI⟩ := hrel
    by_cases hlt : q < np
    · have hqP : q < (Kn.strandsL X).length := by have := HNP.out; omega
      obtain ⟨g, c, u, he, hcell, hown⟩ := HI.out.rows.at hqP
      rw [← HNP.out] at he
      cases he
      obtain ⟨a2, c2, rfl⟩ := hown.1.sl
      obtain ⟨fl, HFL⟩ : ∃ m, Hid (m = (Kn.strandsL X)[q].length) := ⟨_, Lib.hid rfl⟩
      rw [← HFL.out] at hcell
      have i1 : (0 : Int) ≤ (q : Int) := by omega
      have i2 : (q : Int) < (np : Int) := by omega
      have hfl : fl ≤ 32 := by have := part_few HX.out hqP; have := HFL.out; have := HM.out; omega
      have HOW : Hid (OwnA w.heap.size wr (.slice a2 fl c2) (Kn.strandsL X)[q]) := Lib.hid (by rw [HFL.out]; exact hown)
      clear hown
      go_wp2
      clear hcell
      obtain ⟨wo, rfl⟩ : ∃ wo, wo = wr := ⟨_, rfl⟩
      go_loopw [22] (fun i wr => ∃ k : Nat, k ≤ fl ∧ i = .int .i64 k ∧ Hid (PtI w wr w.heap.size X (doneL (Kn.strandsL X) q k) (.slice (some ⟨g, 0, none⟩) np c1)) ∧ Hid (OwnA w.heap.size wr (.slice a2 fl c2) (Kn.strandsL X)[q])) (fun i _ => fl - (intOf i).toNat)
      case atStart => exact ⟨0, by omega, rfl, HI, HOW⟩
      case round =>
        obtain ⟨k, hk, rfl, HIk, HOk⟩ := hrel
        by_cases hkf : k < fl
        · have hkF : k < (Kn.strandsL X)[q].length := by have := HFL.out; omega
          obtain ⟨g3, c3, he3, hc3⟩ := HOk.out.1.at hkF
          rw [← HFL.out] at he3
          cases he3
          obtain ⟨x, HYtgjmjbgicfkojaa⟩ : ∃ x, Hid (x = (Kn.strandsL X)[q][k]) := ⟨_, Lib.hid rfl⟩
          rw [← HYtgjmjbgicfkojaa.out] at hc3
          have hmem : x ∈ (Kn.strandsL X)[q] := by rw [HYtgjmjbgicfkojaa.out]; exact List.getElem_mem hkF
          have har := Kn.strands_arc HX.out (List.getElem_mem hqP) hmem
          have HPO : Hid (Kn.partOf X x = q) := Lib.hid (HX.out.part_eq hqP hmem)
          have hx1 : x ≤ m := by have := har.2; have := HM.out; omega
          have hrow := HIk.out.row.cell (i := x) (by have := HM.out; omega)
          have hfz := HIk.out.row.frozen x
          have i3 : (0 : Int) ≤ (k : Int) := by omega
          have i4 : (k : Int) < (fl : Int) := by omega
          have i5 : (0 : Int) ≤ (x : Int) := by omega
          have i6 : (x : Int) < (m : Int) + 1 := by omega
          have HP := Lib.hid (HIk.out.put HPO.out)
          have HF1 : Hid (Fr (fun j => j = w.heap.size) wr (wr.setCell ⟨w.heap.size, x, none⟩ (.int .i64 (q : Nat)))) := Lib.hid ((Fr.refl (fun j => j = w.heap.size) wr).setCell (a := ⟨w.heap.size, x, none⟩) (.inl rfl) _)
          clear hmem har
          go_wp2
          go_roundw
          case rel => exact ⟨k + 1, by omega, by go_num, Lib.hid (by rw [doneL_step hqP hkF, ← HYtgjmjbgicfkojaa.out]; exact HP.out), Lib.hid ⟨HF1.out.owns HOk.out.1 HOk.out.2, HOk.out.2⟩⟩
          case measure => simp [intOf]; omega
        · obtain rfl : k = fl := by omega
          go_wp2
          go_roundw
          case rel => exact ⟨q + 1, by omega, by go_num, Lib.hid (by rw [← doneL_next hqP, ← HFL.out]; exact HIk.out)⟩
          case measure => simp [intOf]; omega
    · obtain rfl : q = np := by omega
      have HALL : Hid (doneL (Kn.strandsL X) q 0 = (Kn.strandsL X).flatten) := Lib.hid (by unfold doneL; rw [List.take_of_length_le (by have := HNP.out; omega)]; simp)
      go_wp2
      go_ret
      have := HI.out.row
      rw [HALL.out] at this
      rw [HM.out]
      exact ⟨_, rfl, this, HI.out.new, Nat.le_refl _⟩
end Go.Proofs.Ytgjmjbgicfkojaa
