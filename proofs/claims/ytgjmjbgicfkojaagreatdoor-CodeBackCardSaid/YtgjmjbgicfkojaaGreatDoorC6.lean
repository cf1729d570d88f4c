/- Walks: the law CodeBack. -/
import Derived.Test.YtgjmjbgicfkojaaGreatDoorC5
import Derived.Test.YtgjmjbgicfkojaaGreatDoorC0
import Derived.Test.YtgjmjbgicfkojaaGreatDoorW30
namespace Go.Proofs.YtgjmjbgicfkojaaGreatDoor
open Go.RowKit

set_option maxRecDepth 100000 in
theorem show_no (a : Option Addr) (n c : Nat) (X : List Kn.Cr) (L : Int) (w : World) (hx : CrsAt w a X) (hn : n = X.length) (lx : n ≤ 9223372036854775807) (l1 : -9223372036854775808 ≤ L) (l2 : L ≤ 9223372036854775807) (hm : Kn.mayB X L = false) :
    Calls Tryz.prog 5 #[.agg #[.slice a n c, .int .i64 L]] w (fun e w' => e = .returned (.tuple #[.string ⟨#[]⟩, .int .i64 7]) ∧ New w w') := by
  have HN := Lib.hid hn
  have HX := Lib.hid hx
  have HM := Lib.hid hm
  clear hx hn hm
  go_enter Tryz.func5, Tryz.ntmps5
  go_wp2_with fail
  refine (may_any a n c X L _ (New.crs ((Fr.refl _ _).alloc _) HX.out) HN.out lx l1 l2).mono ?_
  rintro e w1 ⟨rfl, hN⟩
  rw [HM.out]
  have HN1 : Hid (New w w1) := Lib.hid (((Fr.refl _ w).alloc _).trans hN)
  clear hN
  go_wp2
  go_ret2
  exact ⟨rfl, HN1.out⟩
/- a diagram's words -/
def wordsOf (X : List Kn.Cr) (h : ∀ x ∈ X, Tx.InC x) (L : Nat) : List Tx.Wd := (X.pmap (fun x hx => (⟨some x, fun y e => by cases e; exact hx⟩ : Tx.Wd)) h) ++ List.replicate L ⟨none, fun y e => by cases e⟩
theorem wordsOf_t (X : List Kn.Cr) (h : ∀ x ∈ X, Tx.InC x) (L : Nat) : (wordsOf X h L).map Tx.wt = wordsT X L := by
  unfold wordsOf wordsT
  rw [List.map_append, List.map_pmap, List.map_replicate]
  congr 1
  show X.pmap (fun a _ => Tx.crT a) h = _
  rw [List.pmap_eq_map]
theorem wordsOf_c (X : List Kn.Cr) (h : ∀ x ∈ X, Tx.InC x) (L : Nat) : crsOf (wordsOf X h L) = X ∧ lpsOf (wordsOf X h L) = L ∧ (wordsOf X h L).length = X.length + L := by
  have h1 : ∀ (X : List Kn.Cr) (h : ∀ x ∈ X, Tx.InC x), (X.pmap (fun x hx => (⟨some x, fun y e => by cases e; exact hx⟩ : Tx.Wd)) h).filterMap (·.1) = X := by
    intro X
    induction X with
    | nil => intro _; rfl
    | cons x X ih => intro h; simp [List.pmap, ih]
  have h2 : ∀ (X : List Kn.Cr) (h : ∀ x ∈ X, Tx.InC x), (X.pmap (fun x hx => (⟨some x, fun y e => by cases e; exact hx⟩ : Tx.Wd)) h).filter (fun o => o.1.isNone) = [] := by
    intro X
    induction X with
    | nil => intro _; rfl
    | cons x X ih => intro h; simp [List.pmap, ih]
  refine ⟨?_, ?_, by simp [wordsOf]⟩
  · unfold crsOf wordsOf
    rw [List.filterMap_append, h1]
    simp [List.filterMap_replicate]
  · unfold lpsOf wordsOf
    rw [List.filter_append, h2]
    simp [List.filter_replicate]
theorem joinT_len (X : List Kn.Cr) (L : Nat) (h : ∀ x ∈ X, Tx.InC x) (hx : X.length ≤ 16) (hl : L ≤ 16) : (Tx.joinW 32 (wordsT X L)).length ≤ 2000 := by
  have h1 := Tx.joinW_len 32 (wordsT X L) 16 fun u hu => by
    unfold wordsT at hu
    rw [List.mem_append, List.mem_map, List.mem_replicate] at hu
    rcases hu with ⟨x, hx, rfl⟩ | ⟨_, rfl⟩
    · exact Tx.crT_len (h x hx)
    · simp
  have h2 : (wordsT X L).length = X.length + L := by unfold wordsT; simp
  rw [h2] at h1
  have h3 : (X.length + L) * 17 ≤ 32 * 17 := Nat.mul_le_mul_right _ (by omega)
  omega

set_option maxRecDepth 100000 in
set_option maxHeartbeats 4000000 in
theorem codeBack_any (a : Option Addr) (n c : Nat) (X : List Kn.Cr) (L : Int) (w : World) (hx : CrsAt w a X) (hn : n = X.length) (lx : n ≤ 9223372036854775807) (l1 : -9223372036854775808 ≤ L) (l2 : L ≤ 9223372036854775807) (he : Env w) :
    Calls Tryz.prog 3 #[.agg #[.slice a n c, .int .i64 L]] w (fun e w' => e = .returned (.bool true) ∧ New w w') := by
  have HN := Lib.hid hn
  have HX := Lib.hid hx
  have HE := Lib.hid he
  clear hx hn he
  by_cases hm : Kn.mayB X L = true
  · have HOK := Lib.hid (mayB_ok hm)
    have hn16 : n ≤ 16 := by have := HN.out; have := HOK.out.2; omega
    obtain ⟨lp, rfl, hL1, hL2⟩ : ∃ lp : Nat, L = (lp : Int) ∧ lp ≤ 16 ∧ ¬ (n + lp = 0) := by
      have h := hm
      unfold Kn.mayB at h
      simp only [Bool.and_eq_true, decide_eq_true_eq, Bool.not_eq_true', Bool.and_eq_false_iff, decide_eq_false_iff_not] at h
      have := HN.out
      exact ⟨L.toNat, by omega, by omega, by omega⟩
    have HM := Lib.hid hm
    have HIN : Hid (∀ x ∈ X, Tx.InC x) := Lib.hid fun x hx => by
      obtain ⟨i, hi, he⟩ := List.getElem_of_mem hx
      have := inC_of HOK.out.1 HOK.out.2 hi
      have e : Kn.cr X i = x := by simp [Kn.cr, List.getD_eq_getElem?_getD, hi, he]
      rwa [e] at this
    have HL2 := Lib.hid hL2
    clear hm hL2
    go_enter Tryz.func3, Tryz.ntmps3
    go_wp2_with fail
    refine (awake_any _).mono ?_
    rintro e w1 ⟨rfl, hN⟩
    have HN1 : Hid (New w w1) := Lib.hid (((Fr.refl _ w).alloc _).trans hN)
    have HB1 := Lib.hid (hN.blk (heap_alloc_new w (.cells #[.slice a n c, .int .i64 (lp : Int)] 24)) fun x => x)
    obtain ⟨p1, p2, _, _⟩ := box2_c HB1.out
    clear hN
    go_wp2_with fail
    refine (show_any a n c X lp _ (New.crs HN1.out HX.out) HN.out HM.out).mono ?_
    rintro e w2 ⟨rfl, hN⟩
    obtain ⟨b, HBB⟩ : ∃ b : ByteArray, Hid (b = ⟨(Tx.joinW 32 (wordsT X lp)).toArray⟩) := ⟨_, Lib.hid rfl⟩
    rw [← HBB.out]
    have HN2 := Lib.hid (HN1.out.trans hN)
    have HB2 := Lib.hid (hN.blk HB1.out fun x => x)
    clear hN p1 p2
    obtain ⟨p1, p2, _, _⟩ := box2_c HB2.out
    go_wp2_with fail
    refine (may_any a n c X lp _ (New.crs HN2.out HX.out) HN.out lx l1 l2).mono ?_
    rintro e w3 ⟨rfl, hN⟩
    rw [HM.out]
    have HN3 := Lib.hid (HN2.out.trans hN)
    have HB3 := Lib.hid (hN.blk HB2.out fun x => x)
    clear hN p1 p2
    obtain ⟨p1, p2, _, _⟩ := box2_c HB3.out
    have HW := Lib.hid (wordsOf_c X HIN.out lp)
    go_wp2_with fail
    refine (read_any b (wordsOf X HIN.out lp) X lp _ (by rw [HBB.out, wordsOf_t]) (by intro h0; have := HW.out.2.2; rw [h0] at this; have := HL2.out; have := HN.out; simp at *; omega) (by rw [HW.out.2.2]; have := HOK.out.2; omega) (by rw [Lib.size_eq, HBB.out]; exact joinT_len X lp HIN.out HOK.out.2 hL1) HW.out.1 HW.out.2.1 HM.out (New.env HN3.out HE.out)).mono ?_
    rintro e w4 ⟨sc, rfl, hown, hN⟩
    obtain ⟨b1, d1, rfl, hcy⟩ := CrsAt.of_owns hown
    rw [← HN.out]
    have HN4 := Lib.hid (HN3.out.trans hN)
    have HB4 := Lib.hid ((hN.alloc (.cells #[.slice b1 n d1, .int .i64 (lp : Int)] 24)).blk HB3.out fun x => x)
    have HC4 := Lib.hid (New.crs ((Fr.refl _ w4).alloc (.cells #[.slice b1 n d1, .int .i64 (lp : Int)] 24)) hcy)
    have HR4 := Lib.hid (heap_alloc_new w4 (.cells #[.slice b1 n d1, .int .i64 (lp : Int)] 24))
    have HX4 := Lib.hid (New.crs (HN4.out.alloc (.cells #[.slice b1 n d1, .int .i64 (lp : Int)] 24)) HX.out)
    clear hown hcy hN p1 p2
    obtain ⟨p1, p2, _, _⟩ := box2_c HB4.out
    obtain ⟨q1, q2, _, _⟩ := box2_c HR4.out
    have q0 := Tryz.eq42a
    go_wp2
    clear p1 p2 q1 q2
    have HN5 := Lib.hid (HN4.out.alloc (.cells #[.slice b1 n d1, .int .i64 (lp : Int)] 24))
    obtain ⟨wo, HWO⟩ : ∃ wo, wo = w4.alloc (.cells #[.slice b1 n d1, .int .i64 (lp : Int)] 24) := ⟨_, rfl⟩
    rw [← HWO] at HN5 HB4 HC4 HR4 HX4 ⊢
    obtain ⟨Bd, HBd⟩ : ∃ B, B = w4.heap.size := ⟨_, rfl⟩
    rw [← HBd] at HR4 ⊢
    clear HWO HBd
    go_loopw [7] (fun i wr => ∃ k : Nat, k ≤ n ∧ i = .int .i64 k ∧ Hid (New wo wr)) (fun i _ => n - (intOf i).toNat)
    case atStart => exact ⟨0, by omega, rfl, Lib.hid (Fr.refl _ _)⟩
    case round =>
      obtain ⟨k, hk, rfl, HF⟩ := hrel
      obtain ⟨q1, q2, _, _⟩ := box2_c (HF.out.blk HB4.out fun x => x)
      obtain ⟨r1, r2, _, _⟩ := box2_c (HF.out.blk HR4.out fun x => x)
      by_cases hlt : k < n
      · obtain ⟨b, o, rfl, d1⟩ := (New.crs HF.out HC4.out).at (k := k) (by have := HN.out; omega)
        obtain ⟨b', o', rfl, d2⟩ := (New.crs HF.out HX4.out).at (k := k) (by have := HN.out; omega)
        obtain ⟨x1, x2, x3, x4, x5, H1⟩ := cr_parts X k
        rw [H1.out] at d1 d2
        obtain ⟨a1, a2, a3, a4, a5⟩ := d1
        obtain ⟨b1, b2, b3, b4, b5⟩ := d2
        have i1 : (0 : Int) ≤ (k : Int) := by omega
        have i2 : (k : Int) < (n : Int) := by omega
        have hn := fun w => ne42v w x1 x2 x3 x4 x5 x1 x2 x3 x4 x5 false (by simp)
        go_wp2
        go_quiet (fail)
        go_wp2
        go_roundw
        case rel => exact ⟨k + 1, by omega, by go_num, Lib.hid (HF.out.drewN _)⟩
        case measure => simp [intOf]; omega
      · obtain rfl : k = n := by omega
        go_wp2
        go_ret
        exact ⟨rfl, HN5.out.trans HF.out⟩
  · have hm' : Kn.mayB X L = false := by rw [Bool.eq_false_iff]; exact hm
    have HM := Lib.hid hm'
    clear hm hm'
    go_enter Tryz.func3, Tryz.ntmps3
    go_wp2_with fail
    refine (awake_any _).mono ?_
    rintro e w1 ⟨rfl, hN⟩
    have HN1 : Hid (New w w1) := Lib.hid (((Fr.refl _ w).alloc _).trans hN)
    have HB1 := Lib.hid (hN.blk (heap_alloc_new w (.cells #[.slice a n c, .int .i64 L] 24)) fun x => x)
    obtain ⟨p1, p2, _, _⟩ := box2_c HB1.out
    clear hN
    go_wp2_with fail
    refine (show_no a n c X L _ (New.crs HN1.out HX.out) HN.out lx l1 l2 HM.out).mono ?_
    rintro e w2 ⟨rfl, hN⟩
    have HN2 := Lib.hid (HN1.out.trans hN)
    have HB2 := Lib.hid (hN.blk HB1.out fun x => x)
    clear hN p1 p2
    obtain ⟨p1, p2, _, _⟩ := box2_c HB2.out
    go_wp2_with fail
    refine (may_any a n c X L _ (New.crs HN2.out HX.out) HN.out lx l1 l2).mono ?_
    rintro e w3 ⟨rfl, hN⟩
    rw [HM.out]
    have HN3 := Lib.hid (HN2.out.trans hN)
    clear hN p1 p2
    go_wp2
    go_ret
    exact ⟨rfl, HN3.out⟩
end Go.Proofs.YtgjmjbgicfkojaaGreatDoor
