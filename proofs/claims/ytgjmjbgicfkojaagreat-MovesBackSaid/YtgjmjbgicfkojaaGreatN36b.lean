/- Walks: Same, of two diagrams that may be and have as many loops. -/
import Derived.Test.YtgjmjbgicfkojaaGreatW33
import Derived.Test.YtgjmjbgicfkojaaGreatN2
import Derived.Test.YtgjmjbgicfkojaaGreatTK
/- Walks: Same, of two diagrams that may be and have as many loops. -/
namespace Go.Proofs.YtgjmjbgicfkojaaGreat
open Go.RowKit

theorem own_crs {w : World} {base : Nat} {v : Value} {X : List Kn.Cr} (h : w.ownsRow base 75 5 v X.length (crCells X)) : ∃ a c, v = .slice a X.length c ∧ CrsAt w a X := by
  rcases h.2 with ⟨rfl, h0⟩ | ⟨g, cap, cur, rfl, hb, hg, h1, h2, h3, h4⟩
  · have : X = [] := List.length_eq_zero_iff.1 h0
    subst this
    exact ⟨none, 0, rfl, .inl rfl⟩
  · refine ⟨_, cap, rfl, .inr ⟨g, 0, rfl, fun i hi => ?_⟩⟩
    have key : ∀ k, k < 5 → w.cell? ⟨g, 0 + i * 5 + k, none⟩ = some (crFn X (i * 5 + k)) := fun k hk => by
      have e := crCells_at (X := X) (j := i * 5 + k) (by omega); have := World.ownsRow.cells h (g := g) rfl _ _ e
      rwa [addr_add, show 0 + (i * 5 + k) = 0 + i * 5 + k by omega] at this
    have e : ∀ k, k < 5 → (i * 5 + k) / 5 = i ∧ (i * 5 + k) % 5 = k := fun k hk => ⟨by omega, by omega⟩
    refine ⟨?_, ?_, ?_, ?_, ?_⟩
    · have := key 0 (by omega); unfold crFn at this; rw [(e 0 (by omega)).1, (e 0 (by omega)).2] at this; exact this
    · have := key 1 (by omega); unfold crFn at this; rw [(e 1 (by omega)).1, (e 1 (by omega)).2] at this; exact this
    · have := key 2 (by omega); unfold crFn at this; rw [(e 2 (by omega)).1, (e 2 (by omega)).2] at this; exact this
    · have := key 3 (by omega); unfold crFn at this; rw [(e 3 (by omega)).1, (e 3 (by omega)).2] at this; exact this
    · have := key 4 (by omega); unfold crFn at this; rw [(e 4 (by omega)).1, (e 4 (by omega)).2] at this; exact this

set_option maxRecDepth 100000 in
set_option maxHeartbeats 2000000 in
theorem same_any (a a' : Option Addr) (n n' c c' : Nat) (X Y : List Kn.Cr) (L : Int) (w : World) (hx : CrsAt w a X) (hy : CrsAt w a' Y) (hn : n = X.length) (hn' : n' = Y.length) (hm : Kn.mayB X L = true) (hm' : Kn.mayB Y L = true) (l1 : -9223372036854775808 ≤ L) (l2 : L ≤ 9223372036854775807) :
    Calls Tryz.prog 22 #[.agg #[.slice a n c, .int .i64 L], .agg #[.slice a' n' c', .int .i64 L]] w (fun e w' => e = .returned (.tuple #[.bool (decide (Kn.formL X = Kn.formL Y)), .int .i64 0]) ∧ New w w') := by
  have HN := Lib.hid hn; have HN' := Lib.hid hn'; have HX := Lib.hid hx; have HY := Lib.hid hy; have HO := Lib.hid hm; have HO' := Lib.hid hm'
  have lx : n ≤ 16 := by have := (mayB_ok hm).2; omega
  have ly : n' ≤ 16 := by have := (mayB_ok hm').2; omega
  obtain ⟨p, HP⟩ : ∃ p, Hid (p = (Kn.formL X).length) := ⟨_, Lib.hid rfl⟩
  obtain ⟨q, HQ⟩ : ∃ q, Hid (q = (Kn.formL Y).length) := ⟨_, Lib.hid rfl⟩
  have hp : p ≤ 16 := by rw [HP.out, (mayB_ok hm).1.form_len]; exact (mayB_ok hm).2
  have hq : q ≤ 16 := by rw [HQ.out, (mayB_ok hm').1.form_len]; exact (mayB_ok hm').2
  obtain ⟨r, HR⟩ : ∃ r, Hid (r = decide (Kn.formL X = Kn.formL Y)) := ⟨_, Lib.hid rfl⟩
  rw [← HR.out]; clear hx hy hn hn' hm hm'
  go_enter Tryz.func22, Tryz.ntmps22
  have HW0 : Hid (New w ((w.alloc (.cells #[.slice a n c, .int .i64 L] 24)).alloc (.cells #[.slice a' n' c', .int .i64 L] 24))) := Lib.hid (((Fr.refl _ w).alloc _).alloc _); have HB1 : Hid (((w.alloc (.cells #[.slice a n c, .int .i64 L] 24)).alloc (.cells #[.slice a' n' c', .int .i64 L] 24)).heap[w.heap.size + 1]? = some (.cells #[.slice a' n' c', .int .i64 L] 24 (0, 0))) := Lib.hid (by have := heap_alloc_new (w.alloc (.cells #[.slice a n c, .int .i64 L] 24)) (.cells #[.slice a' n' c', .int .i64 L] 24); rwa [World.size_alloc] at this); go_wp2_with fail
  refine (canon_all a n c X L _ (New.crs HW0.out HX.out) HN.out (by omega) l1 l2).mono ?_; rintro e w1 ⟨hF, h5⟩; obtain ⟨_, sc, rfl, hr⟩ := h5.resolve_right (fun h => by have h1 := h.1; rw [HO.out] at h1; cases h1); obtain ⟨a1, c1, rfl, hc⟩ := own_crs hr; rw [← HP.out]; have HF1 := Lib.hid (HW0.out.trans hF); have hb := ((hF.alloc (.cells #[.slice a1 p c1, .int .i64 L] 24)).blk HB1.out fun x => x); obtain ⟨y0, y1, _, _⟩ := box2_c hb; have HC1 := Lib.hid (New.crs ((Fr.refl _ w1).alloc (.cells #[.slice a1 p c1, .int .i64 L] 24)) hc)
  have HK1 := Lib.hid (heap_alloc_new w1 (.cells #[.slice a1 p c1, .int .i64 L] 24)); clear hF h5 hr hc hb; go_wp2_with fail; refine (canon_all a' n' c' Y L _ (New.crs (HF1.out.alloc (.cells #[.slice a1 p c1, .int .i64 L] 24)) HY.out) HN'.out (by omega) l1 l2).mono ?_; rintro e w2 ⟨hF, h5⟩; obtain ⟨_, sc, rfl, hr⟩ := h5.resolve_right (fun h => by have h1 := h.1; rw [HO'.out] at h1; cases h1); obtain ⟨a2, c2, rfl, hc⟩ := own_crs hr; rw [← HQ.out]; have HF2 := Lib.hid ((HF1.out.alloc (.cells #[.slice a1 p c1, .int .i64 L] 24)).trans hF)
  have hb := ((hF.alloc (.cells #[.slice a2 q c2, .int .i64 L] 24)).blk HK1.out fun x => x); obtain ⟨z0, z1, _, _⟩ := box2_c hb; have HC2 := Lib.hid (New.crs ((Fr.refl _ w2).alloc (.cells #[.slice a2 q c2, .int .i64 L] 24)) hc); have HC3 := Lib.hid (New.crs (hF.alloc (.cells #[.slice a2 q c2, .int .i64 L] 24)) HC1.out); obtain ⟨u0, u1, _, _⟩ := box2_c (heap_alloc_new w2 (.cells #[.slice a2 q c2, .int .i64 L] 24)); clear hF h5 hr hc hb y0 y1; go_wp2_with fail; refine (equal_any a1 a2 p q c1 c2 (Kn.formL X) (Kn.formL Y) _ HC3.out HC2.out HP.out HQ.out (by omega) (by omega)).mono ?_
  rintro e w3 ⟨rfl, hN⟩; rw [← HR.out]; have HF3 := Lib.hid ((HF2.out.alloc (.cells #[.slice a2 q c2, .int .i64 L] 24)).trans hN); clear hN; go_wp2; go_ret2
  exact ⟨rfl, HF3.out⟩
end Go.Proofs.YtgjmjbgicfkojaaGreat

/- Walks: the law MovesSimple. -/
namespace Go.Proofs.YtgjmjbgicfkojaaGreat
open Go.RowKit

set_option maxRecDepth 100000 in
theorem alike_any (a a' : Option Addr) (n c c' : Nat) (X : List Kn.Cr) (L : Int) (w : World) (hx : CrsAt w a X) (hy : CrsAt w a' X) (hn : n = X.length) (hm : Kn.mayB X L = true) (l1 : -9223372036854775808 ≤ L) (l2 : L ≤ 9223372036854775807) :
    Calls Tryz.prog 8 #[.agg #[.slice a n c, .int .i64 L], .agg #[.slice a' n c', .int .i64 L]] w (fun e w' => e = .returned (.bool true) ∧ New w w') := by
  have HN := Lib.hid hn; have HX := Lib.hid hx; have HY := Lib.hid hy; have HM := Lib.hid hm; clear hx hy hn hm
  go_enter Tryz.func8, Tryz.ntmps8
  go_wp2_with fail; refine (same_any a a' n n c c' X X L _ (New.crs (((Fr.refl _ w).alloc _).alloc _) HX.out) (New.crs (((Fr.refl _ w).alloc _).alloc _) HY.out) HN.out HN.out HM.out HM.out l1 l2).mono ?_; rintro e w1 ⟨rfl, hF⟩; rw [decide_eq_true rfl]; have HF := Lib.hid ((((Fr.refl _ w).alloc _).alloc _).trans hF); clear hF; go_wp2; go_ret
  exact ⟨rfl, HF.out⟩
end Go.Proofs.YtgjmjbgicfkojaaGreat

/- Walks: Do, of no kind of move. -/
namespace Go.Proofs.YtgjmjbgicfkojaaGreat
open Go.RowKit Go.ChangeMaps

set_option maxRecDepth 100000 in
theorem klook0 (k : Int) (h1 : ¬ k = 1) (h2 : ¬ k = 2) (h3 : ¬ k = 3) (h4 : ¬ k = 4) (h5 : ¬ k = 5) (w : World) (b : Nat) (hb : w.heap[b]? = some (.map (kEs 5) 5)) : (Instr.lookup 57 (.map (some b)) (.int .i64 k) false).run Tryz.prog w = .ok .nilFunc w := by
  have hc : (Instr.checkKey false 10000 3 (.int .i64 k)).run Tryz.prog w = .ok () w := by kernel_rfl
  have hu : Tryz.prog.underlying 3 = some (.int .i64) := by kernel_rfl
  have hf : (Instr.findKey 3 (.int .i64 k) (kEs 5).toList).run Tryz.prog w = .ok none w := by
    have g1 : (k == 1) = false := by simp [h1]
    have g2 : (k == 2) = false := by simp [h2]
    have g3 : (k == 3) = false := by simp [h3]
    have g4 : (k == 4) = false := by simp [h4]
    have g5 : (k == 5) = false := by simp [h5]
    have e : Instr.findNow (.int .i64) (.int .i64 k) (kEs 5).toList 0 = some none := by
      show (match some (k == 1) with
        | some true => some (some (0, Value.func (Fn.func 27) #[] #[]))
        | some false => match some (k == 2) with
          | some true => some (some (1, Value.func (Fn.func 28) #[] #[]))
          | some false => match some (k == 3) with
            | some true => some (some (2, Value.func (Fn.func 29) #[] #[]))
            | some false => match some (k == 4) with
              | some true => some (some (3, Value.func (Fn.func 30) #[] #[]))
              | some false => match some (k == 5) with
                | some true => some (some (4, Value.func (Fn.func 31) #[] #[]))
                | some false => some none
                | none => none
              | none => none
            | none => none
          | none => none
        | none => none) = some none
      rw [g1, g2, g3, g4, g5]
    unfold Instr.findKey
    simp [run_underlying hu, e, Result.andThen]
  have hz : (zeroValue 56).run Tryz.prog w = .ok .nilFunc w := by kernel_rfl
  have he : (kEs 5).isEmpty = false := rfl
  simp [Instr.lookup, run_underlying Tryz.ul57, MapKept.run_getObj_map hb, hc, hf, hz, he, Result.andThen]
set_option maxRecDepth 100000 in
set_option maxHeartbeats 8000000 in
theorem do_other (a : Option Addr) (n c : Nat) (X : List Kn.Cr) (L k x y u v : Int) (ub vb ov : Bool) (w : World) (hx : CrsAt w a X) (hn : n = X.length) (lx : n ≤ 9223372036854775807) (l1 : -9223372036854775808 ≤ L) (l2 : L ≤ 9223372036854775807)
    (h1 : ¬ k = 1) (h2 : ¬ k = 2) (h3 : ¬ k = 3) (h4 : ¬ k = 4) (h5 : ¬ k = 5) :
    Calls Tryz.prog 6 #[.agg #[.slice a n c, .int .i64 L], mvV k x y u v ub vb ov] w (GaveDo (if Kn.mayB X L && Kn.planarB X then .no 6 else .no 7) w) := by
  have HX := Lib.hid hx; have HN := Lib.hid hn; have HLK : Hid (∀ (w : World) (b : Nat), w.heap[b]? = some (.map (kEs 5) 5) → (Instr.lookup 57 (.map (some b)) (.int .i64 k) false).run Tryz.prog w = .ok .nilFunc w) := Lib.hid (klook0 k h1 h2 h3 h4 h5)
  have hnil : ∀ w, (binOp .eql 56 .nilFunc .nilFunc).run Tryz.prog w = .ok (.bool true) w := fun w => by kernel_rfl
  have hmf : ∀ (fn : Fn) (first cap : Array Value) (w : World), (Instr.makeFunc fn first cap).run Tryz.prog w = .ok (.func fn first cap) w := fun _ _ _ _ => rfl
  clear hx hn h1 h2 h3 h4 h5
  obtain ⟨oo, HOO⟩ : ∃ oo, Hid (oo = if Kn.mayB X L && Kn.planarB X then Out.no 6 else Out.no 7) := ⟨_, Lib.hid rfl⟩
  rw [← HOO.out]
  obtain ⟨w1, HW1⟩ : ∃ w1, Hid (w1 = (((w.alloc (.cells #[.slice a n c, .int .i64 L] 24)).alloc (.cells #[.int .i64 k, .int .i64 x, .int .i64 y, .int .i64 u, .bool ub, .int .i64 v, .bool vb, .bool ov] 28)).alloc (.cells #[.slice none 0 0, .int .i64 0] 24)).alloc (.cells #[.int .i64 0] 30)) := ⟨_, Lib.hid rfl⟩
  obtain ⟨B1, HB1⟩ : ∃ B, Hid (B = w.heap.size + 1) := ⟨_, Lib.hid rfl⟩
  obtain ⟨B2, HB2⟩ : ∃ B, Hid (B = w.heap.size + 1 + 1) := ⟨_, Lib.hid rfl⟩
  obtain ⟨B3, HB3⟩ : ∃ B, Hid (B = w.heap.size + 1 + 1 + 1) := ⟨_, Lib.hid rfl⟩
  have HN1 : Hid (New w w1) := Lib.hid (by rw [HW1.out]; exact ((((Fr.refl _ w).alloc _).alloc _).alloc _).alloc _)
  have HM1 : Hid (w1.heap[B1]? = some (.cells #[.int .i64 k, .int .i64 x, .int .i64 y, .int .i64 u, .bool ub, .int .i64 v, .bool vb, .bool ov] 28 (0, 0))) := Lib.hid (by
    have h := heap_alloc_new (w.alloc (.cells #[.slice a n c, .int .i64 L] 24)) (.cells #[.int .i64 k, .int .i64 x, .int .i64 y, .int .i64 u, .bool ub, .int .i64 v, .bool vb, .bool ov] 28); rw [World.size_alloc] at h; rw [HW1.out, HB1.out]
    exact (((Fr.refl (fun _ => False) _).alloc _).alloc _).blk h fun x => x)
  have HR1 : Hid (w1.heap[B2]? = some (.cells #[.slice none 0 0, .int .i64 0] 24 (0, 0))) := Lib.hid (by
    have h := heap_alloc_new ((w.alloc (.cells #[.slice a n c, .int .i64 L] 24)).alloc (.cells #[.int .i64 k, .int .i64 x, .int .i64 y, .int .i64 u, .bool ub, .int .i64 v, .bool vb, .bool ov] 28)) (.cells #[.slice none 0 0, .int .i64 0] 24); rw [World.size_alloc, World.size_alloc] at h; rw [HW1.out, HB2.out]
    exact ((Fr.refl (fun _ => False) _).alloc _).blk h fun x => x)
  have HE1 : Hid (w1.heap[B3]? = some (.cells #[.int .i64 0] 30 (0, 0))) := Lib.hid (by
    have h := heap_alloc_new (((w.alloc (.cells #[.slice a n c, .int .i64 L] 24)).alloc (.cells #[.int .i64 k, .int .i64 x, .int .i64 y, .int .i64 u, .bool ub, .int .i64 v, .bool vb, .bool ov] 28)).alloc (.cells #[.slice none 0 0, .int .i64 0] 24)) (.cells #[.int .i64 0] 30); rw [World.size_alloc, World.size_alloc, World.size_alloc] at h; rw [HW1.out, HB3.out]
    exact h)
  have hsz1 : w1.heap.size = w.heap.size + 1 + 1 + 1 + 1 := by rw [HW1.out, World.size_alloc, World.size_alloc, World.size_alloc, World.size_alloc]
  have HSZ := Lib.hid hsz1; clear hsz1
  go_enter_defers Tryz.func6, Tryz.ntmps6
  go_wp2_with fail; rw [← HW1.out, ← HB3.out, ← HB2.out, ← HB1.out]; refine (open_any a n c X L w1 (New.crs HN1.out HX.out) HN.out lx l1 l2).mono ?_; rintro e w2 ⟨hF, h5⟩
  rcases h5 with ⟨ho, b, s, fv, rfl, hbe, hro, hb, hs⟩ | ⟨ho, rfl⟩
  · have HN2 := Lib.hid (HN1.out.trans hF)
    have HM2 := Lib.hid (hF.blk HM1.out fun x => x); have HR2 := Lib.hid (hF.blk HR1.out fun x => x); have HE2 := Lib.hid (hF.blk HE1.out fun x => x); have HBE := Lib.hid hbe; have HRO := Lib.hid hro; have HO : Hid (oo = .no 6) := Lib.hid (by rw [HOO.out, ho]; rfl)
    have HOK : Hid (Kn.Ok X ∧ X.length ≤ 16 ∧ 0 ≤ L ∧ L ≤ 16) := Lib.hid (by
      rw [Bool.and_eq_true] at ho; have h1 := mayB_ok ho.1; have h2 := ho.1
      unfold Kn.mayB at h2
      simp only [Bool.and_eq_true, decide_eq_true_eq] at h2
      exact ⟨h1.1, h1.2, h2.1.1.1.2, h2.1.1.2⟩)
    have hB2s : ¬ B2 = s := by have := HSZ.out; have := HB2.out; omega
    have hB3s : ¬ B3 = s := by have := HSZ.out; have := HB3.out; omega
    have hsw : w.heap.size ≤ s := by have := HSZ.out; omega
    have hB32 : ¬ B3 = B2 := by have := HB2.out; have := HB3.out; omega
    have hB2w : w.heap.size ≤ B2 := by have := HB2.out; omega
    have hB3w : w.heap.size ≤ B3 := by have := HB3.out; omega
    clear hF ho hbe hro hb hs; go_wp2_with fail; have HP0 : Hid (New w2 w2.drew) := Lib.hid (Fr.refl _ w2).drew; have hS0 := (eight_c (HP0.out.blk HM2.out fun x => x)).1
    refine wp_only ?_
    refine wp_region_held_drew (S := fun wz => wz.cell? ⟨B1, 0, none⟩ = some (.int .i64 k)) (by kernel_rfl) hS0 (fun hHeld => ?_)
    clear hS0; generalize w2.drew = r0 at hHeld HP0 ⊢; refine' tkO (i := 1) ?_; (try simp only [Act.put, lq1, lq2, lq3, lq4, lq5, lq6]); refine' tkO (i := 2) ?_; (try simp only [Act.put, lq1, lq2, lq3, lq4, lq5, lq6]); refine rdO (i := 0) (fun K hK => ?_); (try simp only [lq1, lq2]); go_simp; refine (kinds_any _).mono ?_; rintro e r1 ⟨mb, rfl, hF, hm⟩; have HP1 := Lib.hid (HP0.out.trans hF); have HMB := Lib.hid hm; clear hF hm; go_wp2_with fail; refine hK.out _ _ ((eight_c (HP1.out.blk HM2.out fun x => x)).1) (fun hHeld => ?_); clear hK K
    (try simp only [Act.put, lq1, lq2, lq3, lq4, lq5, lq6]); refine rdO (i := 3) (fun K hK => ?_); (try simp only [lq1, lq2, lq3]); have hl := HLK.out _ _ HMB.out; go_simp; clear hl; refine hK.out _ _ ((eight_c (HP1.out.blk HM2.out fun x => x)).1) (fun hHeld => ?_); clear hK K; (try simp only [Act.put, lq1, lq2, lq3, lq4, lq5, lq6]); refine' tkO (i := 4) ?_; (try simp only [Act.put, lq1, lq2, lq3, lq4, lq5, lq6]); refine wpAnyH_done (by kernel_rfl) ?_ _
    dsimp only
    have HN3 := Lib.hid (HN2.out.trans HP1.out); have HR3 := Lib.hid (HP1.out.blk HR2.out fun x => x); have HE3 := Lib.hid (HP1.out.blk HE2.out fun x => x); obtain ⟨⟨_, a1⟩, a2, ⟨_, b1⟩, b2, ⟨_, c1⟩, c2, d1, d2, d3, fr⟩ := sto HR3.out HE3.out hB32 (.slice none 0 0) (.int .i64 0) (.int .i64 6); have HF3 := Lib.hid (HN3.out.next fr fun i hi => .inr (by have := HB2.out; have := HB3.out; omega)); clear fr; go_wp2
    refine ⟨.tuple #[.agg #[.slice none 0 0, .int .i64 0], .int .i64 6], by simp [results, Tryz.results6, go_sem, d1, d2, d3], HF3.out, ?_⟩
    rw [HO.out]
  · have HN2 := Lib.hid (HN1.out.trans hF)
    have HR2 := Lib.hid (hF.blk HR1.out fun x => x); have HE2 := Lib.hid (hF.blk HE1.out fun x => x); have HO : Hid (oo = .no 7) := Lib.hid (by rw [HOO.out, ho]; rfl); clear hF ho; obtain ⟨⟨_, a1⟩, a2, ⟨_, b1⟩, b2, ⟨_, c1⟩, c2, d1, d2, d3, fr⟩ := sto HR2.out HE2.out (by have := HB2.out; have := HB3.out; omega) (.slice none 0 0) (.int .i64 0) (.int .i64 7); have HF3 := Lib.hid (HN2.out.next fr fun i hi => .inr (by have := HB2.out; have := HB3.out; omega)); clear fr; go_wp2
    refine ⟨.tuple #[.agg #[.slice none 0 0, .int .i64 0], .int .i64 7], by simp [results, Tryz.results6, go_sem, d1, d2, d3], HF3.out, ?_⟩
    rw [HO.out]
end Go.Proofs.YtgjmjbgicfkojaaGreat
