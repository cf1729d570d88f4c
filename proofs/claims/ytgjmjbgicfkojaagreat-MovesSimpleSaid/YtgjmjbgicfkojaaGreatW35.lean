/- Walks: Same, of two diagrams that may be and have as many loops. -/
import Derived.Test.YtgjmjbgicfkojaaGreatW33
namespace Go.Proofs.YtgjmjbgicfkojaaGreat
open Go.RowKit

theorem own_crs {w : World} {base : Nat} {v : Value} {X : List Kn.Cr} (h : w.ownsRow base 75 5 v X.length (crCells X)) : ∃ a c, v = .slice a X.length c ∧ CrsAt w a X := by
  rcases h.2 with ⟨rfl, h0⟩ | ⟨g, cap, cur, rfl, hb, hg, h1, h2, h3, h4⟩
  · have : X = [] := List.length_eq_zero_iff.1 h0
    subst this
    exact ⟨none, 0, rfl, .inl rfl⟩
  · refine ⟨_, cap, rfl, .inr ⟨g, 0, rfl, fun i hi => ?_⟩⟩
    have key : ∀ k, k < 5 → w.cell? ⟨g, 0 + i * 5 + k, none⟩ = some (crFn X (i * 5 + k)) := fun k hk => by
      have e := crCells_at (X := X) (j := i * 5 + k) (by omega)
      have := World.ownsRow.cells h (g := g) rfl _ _ e
      rwa [addr_add, show 0 + (i * 5 + k) = 0 + i * 5 + k by omega] at this
    have e : ∀ k, k < 5 → (i * 5 + k) / 5 = i ∧ (i * 5 + k) % 5 = k := fun k hk => ⟨by omega, by omega⟩
    refine ⟨?_, ?_, ?_, ?_, ?_⟩
    · have := key 0 (by omega); unfold crFn at this; rw [(e 0 (by omega)).1, (e 0 (by omega)).2] at this; exact this
    · have := key 1 (by omega); unfold crFn at this; rw [(e 1 (by omega)).1, (e 1 (by omega)).2] at this; exact this
    · have := key 2 (by omega); unfold crFn at this; rw [(e 2 (by omega)).1, (e 2 (by omega)).2] at this; exact this
    · have := key 3 (by omega); unfold crFn at this; rw [(e 3 (by omega)).1, (e 3 (by omega)).2] at this; exact this
    · have := key 4 (by omega); unfold crFn at this; rw [(e 4 (by omega)).1, (e 4 (by omega)).2] at this; exact this

set_option maxRecDepth 100000 in
set_option maxHeartbeats 2000000 in
theorem same_any (a a' : Option Addr) (n n' c c' : Nat) (X Y : List Kn.Cr) (L : Int) (w : World) (hx : CrsAt w a X) (hy : CrsAt w a' Y) (hn : n = X.length) (hn' : n' = Y.length) (hm : Kn.mayB X L = true) (hm' : Kn.mayB Y L = true) (l1 : -9223372036854775808 ≤ L) (l2 : L ≤ 9223372036854775807) :
    Calls Tryz.prog 22 #[.agg #[.slice a n c, .int .i64 L], .agg #[.slice a' n' c', .int .i64 L]] w (fun e w' => e = .returned (.tuple #[.bool (decide (Kn.formL X = Kn.formL Y)), .int .i64 0]) ∧ New w w') := by
  have HN := Lib.hid hn
  have HN' := Lib.hid hn'
  have HX := Lib.hid hx
  have HY := Lib.hid hy
  have HO := Lib.hid hm
  have HO' := Lib.hid hm'
  have lx : n ≤ 16 := by have := (mayB_ok hm).2; omega
  have ly : n' ≤ 16 := by have := (mayB_ok hm').2; omega
  obtain ⟨p, HP⟩ : ∃ p, Hid (p = (Kn.formL X).length) := ⟨_, Lib.hid rfl⟩
  obtain ⟨q, HQ⟩ : ∃ q, Hid (q = (Kn.formL Y).length) := ⟨_, Lib.hid rfl⟩
  have hp : p ≤ 16 := by rw [HP.out, (mayB_ok hm).1.form_len]; exact (mayB_ok hm).2
  have hq : q ≤ 16 := by rw [HQ.out, (mayB_ok hm').1.form_len]; exact (mayB_ok hm').2
  obtain ⟨r, HR⟩ : ∃ r, Hid (r = decide (Kn.formL X = Kn.formL Y)) := ⟨_, Lib.hid rfl⟩
  rw [← HR.out]
  clear hx hy hn hn' hm hm'
  go_enter Tryz.func22, Tryz.ntmps22
  have HW0 : Hid (New w ((w.alloc (.cells #[.slice a n c, .int .i64 L] 24)).alloc (.cells #[.slice a' n' c', .int .i64 L] 24))) := Lib.hid (((Fr.refl _ w).alloc _).alloc _)
  have HB1 : Hid (((w.alloc (.cells #[.slice a n c, .int .i64 L] 24)).alloc (.cells #[.slice a' n' c', .int .i64 L] 24)).heap[w.heap.size + 1]? = some (.cells #[.slice a' n' c', .int .i64 L] 24 (0, 0))) := Lib.hid (by have := heap_alloc_new (w.alloc (.cells #[.slice a n c, .int .i64 L] 24)) (.cells #[.slice a' n' c', .int .i64 L] 24); rwa [World.size_alloc] at this)
  go_wp2_with fail
  refine (canon_all a n c X L _ (New.crs HW0.out HX.out) HN.out (by omega) l1 l2).mono ?_
  rintro e w1 ⟨hF, h5⟩
  obtain ⟨_, sc, rfl, hr⟩ := h5.resolve_right (fun h => by have h1 := h.1; rw [HO.out] at h1; cases h1)
  obtain ⟨a1, c1, rfl, hc⟩ := own_crs hr
  rw [← HP.out]
  have HF1 := Lib.hid (HW0.out.trans hF)
  have hb := ((hF.alloc (.cells #[.slice a1 p c1, .int .i64 L] 24)).blk HB1.out fun x => x)
  obtain ⟨y0, y1, _, _⟩ := box2_c hb
  have HC1 := Lib.hid (New.crs ((Fr.refl _ w1).alloc (.cells #[.slice a1 p c1, .int .i64 L] 24)) hc)
  have HK1 := Lib.hid (heap_alloc_new w1 (.cells #[.slice a1 p c1, .int .i64 L] 24))
  clear hF h5 hr hc hb
  go_wp2_with fail
  refine (canon_all a' n' c' Y L _ (New.crs (HF1.out.alloc (.cells #[.slice a1 p c1, .int .i64 L] 24)) HY.out) HN'.out (by omega) l1 l2).mono ?_
  rintro e w2 ⟨hF, h5⟩
  obtain ⟨_, sc, rfl, hr⟩ := h5.resolve_right (fun h => by have h1 := h.1; rw [HO'.out] at h1; cases h1)
  obtain ⟨a2, c2, rfl, hc⟩ := own_crs hr
  rw [← HQ.out]
  have HF2 := Lib.hid ((HF1.out.alloc (.cells #[.slice a1 p c1, .int .i64 L] 24)).trans hF)
  have hb := ((hF.alloc (.cells #[.slice a2 q c2, .int .i64 L] 24)).blk HK1.out fun x => x)
  obtain ⟨z0, z1, _, _⟩ := box2_c hb
  have HC2 := Lib.hid (New.crs ((Fr.refl _ w2).alloc (.cells #[.slice a2 q c2, .int .i64 L] 24)) hc)
  have HC3 := Lib.hid (New.crs (hF.alloc (.cells #[.slice a2 q c2, .int .i64 L] 24)) HC1.out)
  obtain ⟨u0, u1, _, _⟩ := box2_c (heap_alloc_new w2 (.cells #[.slice a2 q c2, .int .i64 L] 24))
  clear hF h5 hr hc hb y0 y1
  go_wp2_with fail
  refine (equal_any a1 a2 p q c1 c2 (Kn.formL X) (Kn.formL Y) _ HC3.out HC2.out HP.out HQ.out (by omega) (by omega)).mono ?_
  rintro e w3 ⟨rfl, hN⟩
  rw [← HR.out]
  have HF3 := Lib.hid ((HF2.out.alloc (.cells #[.slice a2 q c2, .int .i64 L] 24)).trans hN)
  clear hN
  go_wp2
  go_ret2
  exact ⟨rfl, HF3.out⟩
end Go.Proofs.YtgjmjbgicfkojaaGreat
