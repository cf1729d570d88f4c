/- Walks: Form and Canon at a diagram without crossings; Canon at any diagram. -/
import Derived.Test.YtgjmjbgicfkojaaGreatW28
import Derived.Laws.StructEq
import Derived.Test.YtgjmjbgicfkojaaGreatW5
/- Walks: Form and Canon at a diagram without crossings; Canon at any diagram. -/
namespace Go.Proofs.YtgjmjbgicfkojaaGreat
open Go.RowKit

theorem ok_nil : Kn.Ok [] := (Kn.ok_iff []).1 (by decide)
set_option maxRecDepth 100000 in
set_option maxHeartbeats 4000000 in
theorem form_nil (b : Nat) (L : Int) (w : World) (h : ShAt w b [] L) :
    Calls Tryz.prog 26 #[.pointer (some ⟨b, 0, none⟩)] w (GaveForm [] L w) := by
  have hmm := @run_makeMap Tryz.prog
  have HS00 := Lib.hid h
  clear h
  go_enter Tryz.func26, Tryz.ntmps26
  go_wp2_with fail
  obtain ⟨wa, HWA⟩ : ∃ wa, Hid (wa = w.alloc (.cells #[.slice none 0 0, .int .i64 0] 24)) := ⟨_, Lib.hid rfl⟩
  rw [← HWA.out]
  have HNA : Hid (New w wa) := Lib.hid (by rw [HWA.out]; exact (Fr.refl _ w).alloc _)
  have HRES : Hid (wa.heap[w.heap.size]? = some (.cells #[.slice none 0 0, .int .i64 0] 24 (0, 0))) := Lib.hid (by rw [HWA.out]; exact heap_alloc_new _ _)
  have HS := Lib.hid (New.shAt HNA.out HS00.out)
  go_wp2_with (go_at_call 33; refine (pieces_any b [] L _ (HS.out) ok_nil (by simp)).mono ?_; rintro e w2 ⟨pv, rfl, hrp, hE⟩; obtain ⟨ap, cp, e0⟩ := hrp.sl; change pv = .slice ap 0 cp at e0; subst e0; have HE2 := Lib.hid hE; clear hrp hE)
  refine wp_loop_rounds 1 ?_
  rw [rounds_succ]
  go_wp2_with (go_at_call 42; refine (sortV_own w2.heap.size (.slice none 0 0) [] w2 ⟨rfl, .inl ⟨rfl, rfl⟩⟩ (fun t ht => by cases ht) (by simp)).mono ?_; rintro e w7 ⟨rfl, ts', hp, _, hown, hg⟩; have HN7 : Hid (New wa w7) := Lib.hid (HE2.out.grown hg fun k e => by cases e); have HLO := (ShAt.loops (New.shAt HN7.out HS.out)); clear hp hown hg)
  refine wp_loop_rounds 1 ?_
  rw [rounds_succ]
  have hF7 := ((HN7.out.alloc (.cells #[.slice none 0 0, .int .i64 L] 24)).alloc (.map #[] 0)).alloc (.cells #[.map (some (w7.heap.size + 1))] 80)
  have hb0 := hF7.blk HRES.out fun x => x
  have hbD := (((Fr.refl (fun _ => False) (w7.alloc (.cells #[.slice none 0 0, .int .i64 L] 24))).alloc (.map #[] 0)).alloc (.cells #[.map (some (w7.heap.size + 1))] 80)).blk (heap_alloc_new w7 (.cells #[.slice none 0 0, .int .i64 L] 24)) fun x => x
  obtain ⟨d0, d1, _, _⟩ := box2_c hbD
  have hb1 := (box2_set hb0 (.slice none 0 0)).1
  have hb2 := (box2_set hb1 (.int .i64 L)).2
  obtain ⟨e0, _, z0, _⟩ := box2_c hb0
  obtain ⟨_, e1, _, z1⟩ := box2_c hb1
  obtain ⟨m5, m6, _, _⟩ := box2_c hb2
  have HB0 := Lib.hid hb0
  have HF7 := Lib.hid hF7
  clear hb0 hb1 hb2 hbD hF7
  go_wp2
  refine bodyPost_ret (v := .agg #[.slice none 0 0, .int .i64 L]) (by simp [results, Tryz.results26, go_sem, m5, m6]) rfl ⟨_, rfl, ⟨rfl, .inl ⟨rfl, rfl⟩⟩, ?_⟩
  exact (HNA.out.trans HF7.out).next (Fr.setCell (Fr.setCell (Fr.refl (fun k => k = w.heap.size) _) (.inl rfl) _) (.inl rfl) _) fun i hi => .inr (by rw [hi]; exact Nat.le_refl _)
theorem formL_nil : Kn.formL [] = [] := by decide

/- Canon, whatever comes in -/
def GaveCanon (ok : Bool) (X : List Kn.Cr) (L : Int) (w : World) (e : Ending) (w' : World) : Prop :=
  New w w' ∧ ((ok = true ∧ ∃ sc, e = .returned (.tuple #[.agg #[sc, .int .i64 L], .int .i64 0]) ∧ w'.ownsRow w.heap.size 75 5 sc X.length (crCells X)) ∨ (ok = false ∧ e = .returned (.tuple #[.agg #[.slice none 0 0, .int .i64 0], .int .i64 7])))
set_option maxHeartbeats 2000000 in
theorem canon_all (a : Option Addr) (n c : Nat) (X : List Kn.Cr) (L : Int) (w : World) (hx : CrsAt w a X) (hn : n = X.length) (lx : n ≤ 9223372036854775807) (l1 : -9223372036854775808 ≤ L) (l2 : L ≤ 9223372036854775807) :
    Calls Tryz.prog 15 #[.agg #[.slice a n c, .int .i64 L]] w (GaveCanon (Kn.mayB X L) (Kn.formL X) L w) := by
  by_cases hm : Kn.mayB X L = true
  · by_cases hne : X = []
    · subst hne
      have HN := Lib.hid hn
      have HX := Lib.hid hx
      have HO := Lib.hid hm
      clear hx hn hm
      rw [formL_nil, HO.out]
      go_enter Tryz.func15, Tryz.ntmps15
      go_wp2_with (first
        | (go_at_call 20; refine (new_any a n c [] L _ (New.crs (((Fr.refl _ _).alloc _).alloc _) HX.out) HN.out lx l1 l2).mono ?_; rintro e w4 ⟨hF, h5⟩; obtain ⟨_, b, rfl, hs, _⟩ := h5.resolve_right (fun h => by have h1 := h.1; rw [HO.out] at h1; cases h1); have HF := Lib.hid hF; have HS := Lib.hid hs; clear hF hs h5)
        | (go_at_call 26; refine (form_nil b L _ HS.out).mono ?_; rintro e w5 ⟨sc, rfl, hr, hE⟩; obtain ⟨a1, c1, e0, _⟩ := own_shape2 hr; change sc = .slice a1 0 c1 at e0; subst e0; have HR := Lib.hid hr; have HE := Lib.hid hE; have hb0 := (HF.out.trans hE).blk (show ((w.alloc (.cells #[.slice a n c, .int .i64 L] 24)).alloc (.cells #[.slice none 0 0, .int .i64 0] 24)).heap[w.heap.size + 1]? = some (.cells #[.slice none 0 0, .int .i64 0] 24 (0, 0)) by have := heap_alloc_new (w.alloc (.cells #[.slice a n c, .int .i64 L] 24)) (.cells #[.slice none 0 0, .int .i64 0] 24); rwa [World.size_alloc] at this) fun x => x; have HB := Lib.hid hb0; obtain ⟨e0, _, z0, _⟩ := box2_c hb0; have hb1 := (box2_set hb0 (.slice a1 0 c1)).1; obtain ⟨_, e1, _, z1⟩ := box2_c hb1; obtain ⟨m5, m6, _, _⟩ := box2_c (box2_set hb1 (.int .i64 L)).2; clear hr hE hb0 hb1))
      have hN : New w w4 := (((Fr.refl _ w).alloc _).alloc _).trans HF.out
      have hS : Fr (fun k => k = w.heap.size + 1) w5 ((w5.setCell ⟨w.heap.size + 1, 0, none⟩ (.slice a1 0 c1)).setCell ⟨w.heap.size + 1, 1, none⟩ (.int .i64 L)) := by refine Fr.setCell (Fr.setCell (Fr.refl _ w5) ?_ _) ?_ _ <;> exact .inl rfl
      refine bodyPost_ret (v := .tuple #[.agg #[.slice a1 0 c1, .int .i64 L], .int .i64 0]) (by simp [results, Tryz.results15, go_sem, m5, m6]) rfl ⟨(hN.trans HE.out).next hS fun i hi => .inr (by rw [hi]; exact Nat.le_succ _), .inl ⟨rfl, _, rfl, ?_⟩⟩
      exact own_base (hS.owns HR.out fun k hk e => blk_not_own HB.out HR.out (by decide) (e ▸ hk)) hN.size
    · refine (canon_any a n c X L w hx hn lx l1 l2 hm hne).mono ?_
      rintro e w' ⟨sc, rfl, h1, h2⟩
      exact ⟨h2, .inl ⟨hm, sc, rfl, h1⟩⟩
  · have hm' : Kn.mayB X L = false := by rw [Bool.eq_false_iff]; exact hm
    have HN := Lib.hid hn
    have HX := Lib.hid hx
    have HO := Lib.hid hm'
    clear hx hn hm
    rw [hm']
    clear hm'
    go_enter Tryz.func15, Tryz.ntmps15
    go_wp2_with (go_at_call 20; refine (new_any a n c X L _ (New.crs (((Fr.refl _ _).alloc _).alloc _) HX.out) HN.out lx l1 l2).mono ?_; rintro e w4 ⟨hF, h5⟩; obtain ⟨_, rfl⟩ := h5.resolve_left (fun h => by have h1 := h.1; rw [HO.out] at h1; cases h1); have HF := Lib.hid hF; have hb0 := hF.blk (show ((w.alloc (.cells #[.slice a n c, .int .i64 L] 24)).alloc (.cells #[.slice none 0 0, .int .i64 0] 24)).heap[w.heap.size + 1]? = some (.cells #[.slice none 0 0, .int .i64 0] 24 (0, 0)) by have := heap_alloc_new (w.alloc (.cells #[.slice a n c, .int .i64 L] 24)) (.cells #[.slice none 0 0, .int .i64 0] 24); rwa [World.size_alloc] at this) fun x => x; obtain ⟨e0, _, z0, _⟩ := box2_c hb0; have hb1 := (box2_set hb0 (.slice none 0 0)).1; obtain ⟨_, e1, _, z1⟩ := box2_c hb1; obtain ⟨m5, m6, _, _⟩ := box2_c (box2_set hb1 (.int .i64 0)).2; clear hF h5 hb0 hb1)
    have hN : New w w4 := (((Fr.refl _ w).alloc _).alloc _).trans HF.out
    refine bodyPost_ret (v := .tuple #[.agg #[.slice none 0 0, .int .i64 0], .int .i64 7]) (by simp [results, Tryz.results15, go_sem, m5, m6]) rfl ⟨?_, .inr ⟨rfl, rfl⟩⟩
    exact hN.next (Fr.setCell (Fr.setCell (Fr.refl (fun k => k = w.heap.size + 1) _) (.inl rfl) _) (.inl rfl) _) fun i hi => .inr (by rw [hi]; exact Nat.le_succ _)
end Go.Proofs.YtgjmjbgicfkojaaGreat

/- Walks: slices.Equal of crossings. -/
namespace Go.Proofs.YtgjmjbgicfkojaaGreat
open Go.RowKit

theorem Tryz.eq42a : Tryz.prog.eqGuardType Tryz.prog.depth 75 = false := by kernel_rfl
theorem Tryz.eq42b : Tryz.prog.stoodInHeld 75 = false := by kernel_rfl
theorem Tryz.eq42c : Tryz.prog.underlying 75 = some (.struct (Tryz.prog.fieldsOf 75)) := by kernel_rfl
theorem Tryz.eq42d : (Tryz.prog.fieldsOf 75).toList.map (fun f => (f.type, f.name, f.offset)) = [(3, "A", 0), (3, "B", 1), (3, "C", 2), (3, "D", 3), (4, "Plus", 4)] := by kernel_rfl
theorem Tryz.infoB : (Tryz.prog.info? 4).map (fun i => (i.zero, i.size, i.bytes)) = some (some (.bool false), 1, 1) := by kernel_rfl
theorem ne42 (w : World) (x y : Kn.Cr) : (binOp .neq 75 (crV x) (crV y)).run Tryz.prog w = .ok (.bool (!decide (x = y))) w := by
  obtain ⟨a, b, c, d, p⟩ := x
  obtain ⟨a', b', c', d', p'⟩ := y
  show (binOp .neq 75 (.agg #[.int .i64 a, .int .i64 b, .int .i64 c, .int .i64 d, .bool p]) (.agg #[.int .i64 a', .int .i64 b', .int .i64 c', .int .i64 d', .bool p'])).run Tryz.prog w = _
  rw [run_neq_struct, run_equalIn_agg _ _ _ _ _ Tryz.eq42c Tryz.eq42b]
  have h4 := Tryz.eq42d
  rcases h : (Tryz.prog.fieldsOf 75).toList with _ | ⟨f1, _ | ⟨f2, _ | ⟨f3, _ | ⟨f4, _ | ⟨f5, _ | ⟨f6, r⟩⟩⟩⟩⟩⟩ <;> simp [h] at h4
  obtain ⟨⟨t1, n1, o1⟩, ⟨t2, n2, o2⟩, ⟨t3, n3, o3⟩, ⟨t4, n4, o4⟩, t5, n5, o5⟩ := h4
  have hu := Tryz.underlying3
  have hb := Tryz.underlying4
  obtain ⟨i0, hi0, _, hz2, _⟩ := info_parts Tryz.info3
  obtain ⟨i1, hi1, _, hz4, _⟩ := info_parts Tryz.infoB
  have key : (decide ((⟨a, b, c, d, p⟩ : Kn.Cr) = ⟨a', b', c', d', p'⟩)) = (a == a' && (b == b' && (c == c' && (d == d' && p == p')))) := by
    rw [Bool.eq_iff_iff]; simp
  rw [key]
  cases h1 : a == a'
  · simp [go_sem, Op.eqFields, n1, n2, n3, n4, n5, t1, t2, t3, t4, t5, o1, o2, o3, o4, o5, part, sizeOf, typeInfo, hi0, hz2, hi1, hz4, run_equalIn_int _ _ _ .i64 .i64 _ _ hu, run_equalIn_bool _ _ _ _ _ hb, h1]
  cases h2 : b == b'
  · simp [go_sem, Op.eqFields, n1, n2, n3, n4, n5, t1, t2, t3, t4, t5, o1, o2, o3, o4, o5, part, sizeOf, typeInfo, hi0, hz2, hi1, hz4, run_equalIn_int _ _ _ .i64 .i64 _ _ hu, run_equalIn_bool _ _ _ _ _ hb, h1, h2]
  cases h3 : c == c'
  · simp [go_sem, Op.eqFields, n1, n2, n3, n4, n5, t1, t2, t3, t4, t5, o1, o2, o3, o4, o5, part, sizeOf, typeInfo, hi0, hz2, hi1, hz4, run_equalIn_int _ _ _ .i64 .i64 _ _ hu, run_equalIn_bool _ _ _ _ _ hb, h1, h2, h3]
  cases h4 : d == d'
  · simp [go_sem, Op.eqFields, n1, n2, n3, n4, n5, t1, t2, t3, t4, t5, o1, o2, o3, o4, o5, part, sizeOf, typeInfo, hi0, hz2, hi1, hz4, run_equalIn_int _ _ _ .i64 .i64 _ _ hu, run_equalIn_bool _ _ _ _ _ hb, h1, h2, h3, h4]
  cases h5 : p == p' <;> simp [go_sem, Op.eqFields, n1, n2, n3, n4, n5, t1, t2, t3, t4, t5, o1, o2, o3, o4, o5, part, sizeOf, typeInfo, hi0, hz2, hi1, hz4, run_equalIn_int _ _ _ .i64 .i64 _ _ hu, run_equalIn_bool _ _ _ _ _ hb, h1, h2, h3, h4, h5]
/- '!=' of two crossings, as the walk asks it -/
theorem ne42v (w : World) (a b c d : Int) (p : Bool) (a' b' c' d' : Int) (p' : Bool) (r : Bool) (hr : r = !decide ((⟨a, b, c, d, p⟩ : Kn.Cr) = ⟨a', b', c', d', p'⟩)) :
    (binOp .neq 75 (.agg #[.int .i64 a, .int .i64 b, .int .i64 c, .int .i64 d, .bool p]) (.agg #[.int .i64 a', .int .i64 b', .int .i64 c', .int .i64 d', .bool p'])).run Tryz.prog w = .ok (.bool r) w := by
  rw [hr]; exact ne42 w ⟨a, b, c, d, p⟩ ⟨a', b', c', d', p'⟩
theorem cr_ext {X Y : List Kn.Cr} (hl : X.length = Y.length) (h : ∀ j, j < X.length → Kn.cr X j = Kn.cr Y j) : X = Y := by
  refine List.ext_getElem hl fun i h1 h2 => ?_
  have := h i h1
  simpa [Kn.cr, List.getD_eq_getElem?_getD, h1, h2] using this
theorem cr_ne {X Y : List Kn.Cr} {k : Nat} (h : Kn.cr X k ≠ Kn.cr Y k) : X ≠ Y := fun e => h (by rw [e])
theorem cr_parts (X : List Kn.Cr) (k : Nat) : ∃ a b c d p, Hid (Kn.cr X k = ⟨a, b, c, d, p⟩) := ⟨_, _, _, _, _, Lib.hid rfl⟩

set_option maxRecDepth 100000 in
set_option maxHeartbeats 1000000 in
theorem equal_any (a a' : Option Addr) (n m c c' : Nat) (X Y : List Kn.Cr) (w : World) (hx : CrsAt w a X) (hy : CrsAt w a' Y) (hn : n = X.length) (hm : m = Y.length) (l1 : n ≤ 1000) (l2 : m ≤ 1000) :
    Calls Tryz.prog 35 #[.slice a n c, .slice a' m c'] w fun e w' => e = .returned (.bool (decide (X = Y))) ∧ New w w' := by
  have HX := Lib.hid hx
  have HY := Lib.hid hy
  have HN := Lib.hid hn
  have HM := Lib.hid hm
  clear hx hy hn hm
  have q1 := Tryz.eq42a
  by_cases h : n = m
  · subst h
    go_enter Tryz.func35, Tryz.ntmps35
    go_wp2
    go_loopw [13] (fun i wr => ∃ k : Nat, k ≤ n ∧ i = .int .i64 k ∧ Hid (New w wr) ∧ Hid (∀ j, j < k → Kn.cr X j = Kn.cr Y j)) (fun i _ => n - (intOf i).toNat)
    case atStart => exact ⟨0, by omega, rfl, Lib.hid (Fr.refl _ _), Lib.hid fun j hj => by omega⟩
    case round =>
      obtain ⟨k, hk, rfl, HF, HE⟩ := hrel
      by_cases hlt : k < n
      · obtain ⟨b, o, rfl, d1⟩ := (New.crs HF.out HX.out).at (k := k) (by have := HN.out; omega)
        obtain ⟨b', o', rfl, d2⟩ := (New.crs HF.out HY.out).at (k := k) (by have := HM.out; omega)
        obtain ⟨x1, x2, x3, x4, x5, H1⟩ := cr_parts X k
        obtain ⟨y1, y2, y3, y4, y5, H2⟩ := cr_parts Y k
        rw [H1.out] at d1
        rw [H2.out] at d2
        obtain ⟨a1, a2, a3, a4, a5⟩ := d1
        obtain ⟨b1, b2, b3, b4, b5⟩ := d2
        have i1 : (0 : Int) ≤ (k : Int) := by omega
        have i2 : (k : Int) < (n : Int) := by omega
        obtain ⟨r, hr⟩ : ∃ r, r = !decide ((⟨x1, x2, x3, x4, x5⟩ : Kn.Cr) = ⟨y1, y2, y3, y4, y5⟩) := ⟨_, rfl⟩
        have hn := fun w => ne42v w x1 x2 x3 x4 x5 y1 y2 y3 y4 y5 r hr
        have HR := Lib.hid hr
        clear hr
        cases r
        · go_wp2
          go_quiet (fail)
          go_wp2
          go_roundw
          case rel => exact ⟨k + 1, by omega, by go_num, Lib.hid (HF.out.drewN _), Lib.hid fun j hj => by
            by_cases c : j = k
            · subst c
              have := HR.out
              rw [eq_comm, Bool.not_eq_false', decide_eq_true_eq] at this
              rw [H1.out, H2.out, this]
            · exact HE.out j (by omega)⟩
          case measure => simp [intOf]; omega
        · go_wp2
          go_quiet (fail)
          go_wp2
          go_ret
          exact ⟨ret_bool (by
            have := HR.out
            rw [eq_comm, Bool.not_eq_true', decide_eq_false_iff_not] at this
            rw [eq_comm, decide_eq_false_iff_not]
            exact cr_ne (k := k) (by rw [H1.out, H2.out]; exact this)), HF.out.drewN _⟩
      · obtain rfl : k = n := by omega
        go_wp2
        go_ret
        exact ⟨ret_bool (by rw [eq_comm, decide_eq_true_iff]; exact cr_ext (by rw [← HN.out, ← HM.out]) fun j hj => HE.out j (by rw [HN.out]; exact hj)), HF.out⟩
  · have h' : ¬ (n : Int) = (m : Int) := by omega
    go_enter Tryz.func35, Tryz.ntmps35
    go_wp2
    go_ret
    exact ⟨ret_bool (by rw [eq_comm, decide_eq_false_iff_not]; intro z; apply h; rw [HN.out, HM.out, z]), Fr.refl _ _⟩
end Go.Proofs.YtgjmjbgicfkojaaGreat
