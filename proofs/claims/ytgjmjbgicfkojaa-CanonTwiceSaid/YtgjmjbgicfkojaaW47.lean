/- Walks: alike; Mirror of what may not be; the strands' number. -/
import Derived.Test.YtgjmjbgicfkojaaW46
import Derived.Test.YtgjmjbgicfkojaaW39
namespace Go.Proofs.Ytgjmjbgicfkojaa
open Go.RowKit

set_option maxRecDepth 100000 in
theorem alike_any (a a' : Option Addr) (n c c' : Nat) (X : List Kn.Cr) (L : Int) (w : World) (hx : CrsAt w a X) (hy : CrsAt w a' X) (hn : n = X.length) (hm : Kn.mayB X L = true) (l1 : -9223372036854775808 ≤ L) (l2 : L ≤ 9223372036854775807) :
    Calls Try.prog 18 #[.agg #[.slice a n c, .int .i64 L], .agg #[.slice a' n c', .int .i64 L]] w (fun e w' => e = .returned (.bool true) ∧ New w w') := by
  have HN := Lib.hid hn
  have HX := Lib.hid hx
  have HY := Lib.hid hy
  have HM := Lib.hid hm
  clear hx hy hn hm
  go_enter Try.func18, Try.ntmps18
  go_wp2_with fail
  refine (same_any a a' n n c c' X X L _ (New.crs (((Fr.refl _ w).alloc _).alloc _) HX.out) (New.crs (((Fr.refl _ w).alloc _).alloc _) HY.out) HN.out HN.out HM.out HM.out l1 l2).mono ?_
  rintro e w1 ⟨rfl, hF⟩
  rw [decide_eq_true rfl]
  have HF := Lib.hid ((((Fr.refl _ w).alloc _).alloc _).trans hF)
  clear hF
  go_wp2
  go_ret
  exact ⟨rfl, HF.out⟩
set_option maxRecDepth 100000 in
theorem mirror_no (a : Option Addr) (n c : Nat) (X : List Kn.Cr) (L : Int) (w : World) (hx : CrsAt w a X) (hn : n = X.length) (lx : n ≤ 9223372036854775807) (l1 : -9223372036854775808 ≤ L) (l2 : L ≤ 9223372036854775807) (hm : Kn.mayB X L = false) :
    Calls Try.prog 17 #[.agg #[.slice a n c, .int .i64 L]] w (fun e w' => e = .returned (.tuple #[.agg #[.slice none 0 0, .int .i64 0], .int .i64 7]) ∧ New w w') := by
  have HN := Lib.hid hn
  have HX := Lib.hid hx
  have HM := Lib.hid hm
  clear hx hn hm
  go_enter Try.func17, Try.ntmps17
  go_wp2_with fail
  have HN0 : Hid (New w ((w.alloc (.cells #[.slice a n c, .int .i64 L] 24)).alloc (.cells #[.slice none 0 0, .int .i64 0] 24))) := Lib.hid (((Fr.refl _ w).alloc _).alloc _)
  have HRS : Hid (((w.alloc (.cells #[.slice a n c, .int .i64 L] 24)).alloc (.cells #[.slice none 0 0, .int .i64 0] 24)).heap[w.heap.size + 1]? = some (.cells #[.slice none 0 0, .int .i64 0] 24 (0, 0))) := Lib.hid (by have := heap_alloc_new (w.alloc (.cells #[.slice a n c, .int .i64 L] 24)) (.cells #[.slice none 0 0, .int .i64 0] 24); rwa [World.size_alloc] at this)
  refine (new_any a n c X L _ (New.crs HN0.out HX.out) HN.out lx l1 l2).mono ?_
  rintro e w1 ⟨hF, h5⟩
  obtain ⟨_, rfl⟩ := h5.resolve_left (fun h => by have h1 := h.1; rw [HM.out] at h1; cases h1)
  have HF := Lib.hid (HN0.out.trans hF)
  have hr := hF.blk HRS.out fun x => x
  obtain ⟨e0, _, z0, _⟩ := box2_c hr
  have hb1 := (box2_set hr (.slice none 0 0)).1
  have hb2 := (box2_set hb1 (.int .i64 0)).2
  obtain ⟨_, e1, _, z1⟩ := box2_c hb1
  obtain ⟨m5, m6, _, _⟩ := box2_c hb2
  clear hb1 hb2 hr hF h5
  go_wp2
  refine bodyPost_ret (v := .tuple #[.agg #[.slice none 0 0, .int .i64 0], .int .i64 7]) (by simp [results, Try.results17, go_sem, m5, m6]) rfl ⟨rfl, ?_⟩
  have hF : Fr (fun k => k = w.heap.size + 1) w1 ((w1.setCell ⟨w.heap.size + 1, 0, none⟩ (.slice none 0 0)).setCell ⟨w.heap.size + 1, 1, none⟩ (.int .i64 0)) := by refine Fr.setCell (Fr.setCell (Fr.refl _ w1) ?_ _) ?_ _ <;> exact .inl rfl
  exact HF.out.next hF fun i hi => .inr (by omega)
theorem gstrands_lit (a : Option Addr) (n c : Nat) (X : List Kn.Cr) (L : Int) (w : World) (hx : CrsAt w a X) (hn : n = X.length) (hm : Kn.mayB X L = true) (np : Nat) (hnp : np = (Kn.strandsL X).length) (lx : n ≤ 9223372036854775807) (l1 : -9223372036854775808 ≤ L) (l2 : L ≤ 9223372036854775807) :
    Calls Try.prog 19 #[.agg #[.slice a n c, .int .i64 L]] w (fun e w' => ∃ a c, e = .returned (.tuple #[.slice a np c, .int .i64 0]) ∧ New w w') := by
  refine (gstrands_any a n c X L w hx hn lx l1 l2).mono ?_
  rintro e w1 ⟨hF, h5⟩
  obtain ⟨_, v, rfl, hr⟩ := h5.resolve_right (fun h => by have h1 := h.1; rw [hm] at h1; cases h1)
  obtain ⟨a, c, rfl⟩ := hr.sl
  exact ⟨a, c, by rw [hnp], hF⟩
theorem cplanar_yes (a : Option Addr) (n c : Nat) (X : List Kn.Cr) (L : Int) (w : World) (hx : CrsAt w a X) (hn : n = X.length) (hm : Kn.mayB X L = true) (lx : n ≤ 9223372036854775807) (l1 : -9223372036854775808 ≤ L) (l2 : L ≤ 9223372036854775807) (p : Bool) (hp : p = Kn.planarB X) :
    Calls Try.prog 16 #[.agg #[.slice a n c, .int .i64 L]] w (fun e w' => e = .returned (.tuple #[.bool p, .int .i64 0]) ∧ New w w') := by
  refine (cplanar_any a n c X L w hx hn lx l1 l2).mono ?_
  rintro e w1 ⟨hF, h5⟩
  obtain ⟨_, rfl⟩ := h5.resolve_right (fun h => by have h1 := h.1; rw [hm] at h1; cases h1)
  exact ⟨by rw [hp], hF⟩
theorem gaveMir_crs {X : List Kn.Cr} {L : Int} {w w' : World} {e : Ending} {n : Nat} (h : GaveMir X L w e w') (hn : n = X.length) : ∃ a c, e = .returned (.tuple #[.agg #[.slice a n c, .int .i64 L], .int .i64 0]) ∧ CrsAt w' a X ∧ New w w' := by
  obtain ⟨sc, rfl, ho, hF⟩ := h
  obtain ⟨a, c, rfl, hx⟩ := CrsAt.of_owns ho
  exact ⟨a, c, by rw [hn], hx, hF⟩
end Go.Proofs.Ytgjmjbgicfkojaa
