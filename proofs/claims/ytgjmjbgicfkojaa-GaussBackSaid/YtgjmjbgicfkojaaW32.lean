/- Walks: Form and Canon at a diagram without crossings; Canon at any diagram. -/
import Derived.Test.YtgjmjbgicfkojaaW28
namespace Go.Proofs.Ytgjmjbgicfkojaa
open Go.RowKit

theorem ok_nil : Kn.Ok [] := (Kn.ok_iff []).1 (by decide)
set_option maxRecDepth 100000 in
set_option maxHeartbeats 4000000 in
theorem form_nil (b : Nat) (L : Int) (w : World) (h : ShAt w b [] L) :
    Calls Try.prog 26 #[.pointer (some ⟨b, 0, none⟩)] w (GaveForm [] L w) := by
  have hmm := @run_makeMap Try.prog
  have HS00 := Lib.hid h
  clear h
  go_enter Try.func26, Try.ntmps26
  go_wp2_with fail
  obtain ⟨wa, HWA⟩ : ∃ wa, Hid (wa = w.alloc (.cells #[.slice none 0 0, .int .i64 0] 24)) := ⟨_, Lib.hid rfl⟩
  rw [← HWA.out]
  have HNA : Hid (New w wa) := Lib.hid (by rw [HWA.out]; exact (Fr.refl _ w).alloc _)
  have HRES : Hid (wa.heap[w.heap.size]? = some (.cells #[.slice none 0 0, .int .i64 0] 24 (0, 0))) := Lib.hid (by rw [HWA.out]; exact heap_alloc_new _ _)
  have HS := Lib.hid (New.shAt HNA.out HS00.out)
  go_wp2_with (go_at_call 42; refine (pieces_any b [] L _ (HS.out) ok_nil (by simp)).mono ?_; rintro e w2 ⟨pv, rfl, hrp, hE⟩; obtain ⟨ap, cp, e0⟩ := hrp.sl; change pv = .slice ap 0 cp at e0; subst e0; have HE2 := Lib.hid hE; clear hrp hE)
  refine wp_loop_rounds 1 ?_
  rw [rounds_succ]
  go_wp2_with (go_at_call 45; refine (sortV_own w2.heap.size (.slice none 0 0) [] w2 ⟨rfl, .inl ⟨rfl, rfl⟩⟩ (fun t ht => by cases ht) (by simp)).mono ?_; rintro e w7 ⟨rfl, ts', hp, _, hown, hg⟩; have HN7 : Hid (New wa w7) := Lib.hid (HE2.out.grown hg fun k e => by cases e); have HLO := (ShAt.loops (New.shAt HN7.out HS.out)); clear hp hown hg)
  refine wp_loop_rounds 1 ?_
  rw [rounds_succ]
  have hF7 := ((HN7.out.alloc (.cells #[.slice none 0 0, .int .i64 L] 24)).alloc (.map #[] 0)).alloc (.cells #[.map (some (w7.heap.size + 1))] 100)
  have hb0 := hF7.blk HRES.out fun x => x
  have hbD := (((Fr.refl (fun _ => False) (w7.alloc (.cells #[.slice none 0 0, .int .i64 L] 24))).alloc (.map #[] 0)).alloc (.cells #[.map (some (w7.heap.size + 1))] 100)).blk (heap_alloc_new w7 (.cells #[.slice none 0 0, .int .i64 L] 24)) fun x => x
  obtain ⟨d0, d1, _, _⟩ := box2_c hbD
  have hb1 := (box2_set hb0 (.slice none 0 0)).1
  have hb2 := (box2_set hb1 (.int .i64 L)).2
  obtain ⟨e0, _, z0, _⟩ := box2_c hb0
  obtain ⟨_, e1, _, z1⟩ := box2_c hb1
  obtain ⟨m5, m6, _, _⟩ := box2_c hb2
  have HB0 := Lib.hid hb0
  have HF7 := Lib.hid hF7
  clear hb0 hb1 hb2 hbD hF7
  go_wp2
  refine bodyPost_ret (v := .agg #[.slice none 0 0, .int .i64 L]) (by simp [results, Try.results26, go_sem, m5, m6]) rfl ⟨_, rfl, ⟨rfl, .inl ⟨rfl, rfl⟩⟩, ?_⟩
  exact (HNA.out.trans HF7.out).next (Fr.setCell (Fr.setCell (Fr.refl (fun k => k = w.heap.size) _) (.inl rfl) _) (.inl rfl) _) fun i hi => .inr (by rw [hi]; exact Nat.le_refl _)
theorem formL_nil : Kn.formL [] = [] := by decide

/- Canon, whatever comes in -/
def GaveCanon (ok : Bool) (X : List Kn.Cr) (L : Int) (w : World) (e : Ending) (w' : World) : Prop :=
  New w w' ∧ ((ok = true ∧ ∃ sc, e = .returned (.tuple #[.agg #[sc, .int .i64 L], .int .i64 0]) ∧ w'.ownsRow w.heap.size 42 5 sc X.length (crCells X)) ∨ (ok = false ∧ e = .returned (.tuple #[.agg #[.slice none 0 0, .int .i64 0], .int .i64 7])))
set_option maxHeartbeats 2000000 in
theorem canon_all (a : Option Addr) (n c : Nat) (X : List Kn.Cr) (L : Int) (w : World) (hx : CrsAt w a X) (hn : n = X.length) (lx : n ≤ 9223372036854775807) (l1 : -9223372036854775808 ≤ L) (l2 : L ≤ 9223372036854775807) :
    Calls Try.prog 10 #[.agg #[.slice a n c, .int .i64 L]] w (GaveCanon (Kn.mayB X L) (Kn.formL X) L w) := by
  by_cases hm : Kn.mayB X L = true
  · by_cases hne : X = []
    · subst hne
      have HN := Lib.hid hn
      have HX := Lib.hid hx
      have HO := Lib.hid hm
      clear hx hn hm
      rw [formL_nil, HO.out]
      go_enter Try.func10, Try.ntmps10
      go_wp2_with (first
        | (go_at_call 24; refine (new_any a n c [] L _ (New.crs (((Fr.refl _ _).alloc _).alloc _) HX.out) HN.out lx l1 l2).mono ?_; rintro e w4 ⟨hF, h5⟩; obtain ⟨_, b, rfl, hs, _⟩ := h5.resolve_right (fun h => by have h1 := h.1; rw [HO.out] at h1; cases h1); have HF := Lib.hid hF; have HS := Lib.hid hs; clear hF hs h5)
        | (go_at_call 26; refine (form_nil b L _ HS.out).mono ?_; rintro e w5 ⟨sc, rfl, hr, hE⟩; obtain ⟨a1, c1, e0, _⟩ := own_shape2 hr; change sc = .slice a1 0 c1 at e0; subst e0; have HR := Lib.hid hr; have HE := Lib.hid hE; have hb0 := (HF.out.trans hE).blk (show ((w.alloc (.cells #[.slice a n c, .int .i64 L] 24)).alloc (.cells #[.slice none 0 0, .int .i64 0] 24)).heap[w.heap.size + 1]? = some (.cells #[.slice none 0 0, .int .i64 0] 24 (0, 0)) by have := heap_alloc_new (w.alloc (.cells #[.slice a n c, .int .i64 L] 24)) (.cells #[.slice none 0 0, .int .i64 0] 24); rwa [World.size_alloc] at this) fun x => x; have HB := Lib.hid hb0; obtain ⟨e0, _, z0, _⟩ := box2_c hb0; have hb1 := (box2_set hb0 (.slice a1 0 c1)).1; obtain ⟨_, e1, _, z1⟩ := box2_c hb1; obtain ⟨m5, m6, _, _⟩ := box2_c (box2_set hb1 (.int .i64 L)).2; clear hr hE hb0 hb1))
      have hN : New w w4 := (((Fr.refl _ w).alloc _).alloc _).trans HF.out
      have hS : Fr (fun k => k = w.heap.size + 1) w5 ((w5.setCell ⟨w.heap.size + 1, 0, none⟩ (.slice a1 0 c1)).setCell ⟨w.heap.size + 1, 1, none⟩ (.int .i64 L)) := by refine Fr.setCell (Fr.setCell (Fr.refl _ w5) ?_ _) ?_ _ <;> exact .inl rfl
      refine bodyPost_ret (v := .tuple #[.agg #[.slice a1 0 c1, .int .i64 L], .int .i64 0]) (by simp [results, Try.results10, go_sem, m5, m6]) rfl ⟨(hN.trans HE.out).next hS fun i hi => .inr (by rw [hi]; exact Nat.le_succ _), .inl ⟨rfl, _, rfl, ?_⟩⟩
      exact own_base (hS.owns HR.out fun k hk e => blk_not_own HB.out HR.out (by decide) (e ▸ hk)) hN.size
    · refine (canon_any a n c X L w hx hn lx l1 l2 hm hne).mono ?_
      rintro e w' ⟨sc, rfl, h1, h2⟩
      exact ⟨h2, .inl ⟨hm, sc, rfl, h1⟩⟩
  · have hm' : Kn.mayB X L = false := by rw [Bool.eq_false_iff]; exact hm
    have HN := Lib.hid hn
    have HX := Lib.hid hx
    have HO := Lib.hid hm'
    clear hx hn hm
    rw [hm']
    clear hm'
    go_enter Try.func10, Try.ntmps10
    go_wp2_with (go_at_call 24; refine (new_any a n c X L _ (New.crs (((Fr.refl _ _).alloc _).alloc _) HX.out) HN.out lx l1 l2).mono ?_; rintro e w4 ⟨hF, h5⟩; obtain ⟨_, rfl⟩ := h5.resolve_left (fun h => by have h1 := h.1; rw [HO.out] at h1; cases h1); have HF := Lib.hid hF; have hb0 := hF.blk (show ((w.alloc (.cells #[.slice a n c, .int .i64 L] 24)).alloc (.cells #[.slice none 0 0, .int .i64 0] 24)).heap[w.heap.size + 1]? = some (.cells #[.slice none 0 0, .int .i64 0] 24 (0, 0)) by have := heap_alloc_new (w.alloc (.cells #[.slice a n c, .int .i64 L] 24)) (.cells #[.slice none 0 0, .int .i64 0] 24); rwa [World.size_alloc] at this) fun x => x; obtain ⟨e0, _, z0, _⟩ := box2_c hb0; have hb1 := (box2_set hb0 (.slice none 0 0)).1; obtain ⟨_, e1, _, z1⟩ := box2_c hb1; obtain ⟨m5, m6, _, _⟩ := box2_c (box2_set hb1 (.int .i64 0)).2; clear hF h5 hb0 hb1)
    have hN : New w w4 := (((Fr.refl _ w).alloc _).alloc _).trans HF.out
    refine bodyPost_ret (v := .tuple #[.agg #[.slice none 0 0, .int .i64 0], .int .i64 7]) (by simp [results, Try.results10, go_sem, m5, m6]) rfl ⟨?_, .inr ⟨rfl, rfl⟩⟩
    exact hN.next (Fr.setCell (Fr.setCell (Fr.refl (fun k => k = w.heap.size + 1) _) (.inl rfl) _) (.inl rfl) _) fun i hi => .inr (by rw [hi]; exact Nat.le_succ _)
end Go.Proofs.Ytgjmjbgicfkojaa
