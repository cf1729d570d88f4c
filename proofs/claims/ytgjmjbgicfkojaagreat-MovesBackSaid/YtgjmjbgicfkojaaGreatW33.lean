/- Walks: Do, of what curls, pushes and slides. (gen36.py) -/
import Derived.Test.YtgjmjbgicfkojaaGreatTK
import Derived.Test.YtgjmjbgicfkojaaGreatN25
import Derived.Test.YtgjmjbgicfkojaaGreatN30
import Derived.Test.YtgjmjbgicfkojaaGreatN31
import Derived.Test.YtgjmjbgicfkojaaGreatN35
import Derived.Test.YtgjmjbgicfkojaaGreatN15
import Derived.ScopeJumps
import Derived.WalkMore
import Derived.Test.YtgjmjbgicfkojaaGreatN30a
import Derived.Test.YtgjmjbgicfkojaaGreatN2
import Derived.Laws.StructEq
import Derived.Test.YtgjmjbgicfkojaaGreatW5
/- Walks: Do, of what curls, pushes and slides. (gen36.py) -/
namespace Go.Proofs.YtgjmjbgicfkojaaGreat
open Go.RowKit

def GaveBw (ok : Bool) (X : List Kn.Cr) (L : Int) (w : World) (e : Ending) (w' : World) : Prop :=
  New w w' ∧ ((ok = true ∧ ∃ b s fv v bi bo, e = .returned (.tuple #[.pointer (some ⟨b, 0, none⟩), .bool true]) ∧ BW w.heap.size w' b s fv v bi bo X X L ∧ Rows OwnD 0 71 w' fv (Kn.facesL X)) ∨ (ok = false ∧ e = .returned (.tuple #[.pointer none, .bool false])))
theorem ShNew.new {B : Nat} {w w' : World} {b : Nat} {X : List Kn.Cr} {L : Int} (hf : New w w') (h : ShNew B w b X L) : ShNew B w' b X L := by
  obtain ⟨v, bi, bo, base, s, hb⟩ := h
  exact ⟨v, bi, bo, base, hf.sh s, hb⟩
theorem Tryz.func27' (args : Array Value) (w : World) : (callFunc 27 args).run Tryz.prog w = .ok (.enter 27 args) w := by kernel_rfl
theorem Tryz.func28' (args : Array Value) (w : World) : (callFunc 28 args).run Tryz.prog w = .ok (.enter 28 args) w := by kernel_rfl
theorem Tryz.func29' (args : Array Value) (w : World) : (callFunc 29 args).run Tryz.prog w = .ok (.enter 29 args) w := by kernel_rfl
theorem Tryz.func30' (args : Array Value) (w : World) : (callFunc 30 args).run Tryz.prog w = .ok (.enter 30 args) w := by kernel_rfl
theorem Tryz.func31' (args : Array Value) (w : World) : (callFunc 31 args).run Tryz.prog w = .ok (.enter 31 args) w := by kernel_rfl
set_option maxRecDepth 100000 in
set_option maxHeartbeats 2000000 in
theorem open2_any (a : Option Addr) (n c : Nat) (X : List Kn.Cr) (L : Int) (w : World) (hx : CrsAt w a X) (hn : n = X.length) (lx : n ≤ 9223372036854775807) (l1 : -9223372036854775808 ≤ L) (l2 : L ≤ 9223372036854775807) :
    Calls Tryz.prog 17 #[.agg #[.slice a n c, .int .i64 L]] w (GaveBw (Kn.mayB X L && Kn.planarB X) X L w) := by
  have HN := Lib.hid hn; have HX := Lib.hid hx; clear hx hn
  go_enter Tryz.func17, Tryz.ntmps17
  go_wp2_with fail; refine (new_any a n c X L _ (New.crs ((Fr.refl _ _).alloc _) HX.out) HN.out lx l1 l2).mono ?_; rintro e w4 ⟨hF, h5⟩
  rcases h5 with ⟨ho, s, rfl, hs, hlb, hnw⟩ | ⟨ho, rfl⟩
  · have HF : Hid (New w w4) := Lib.hid (((Fr.refl _ _).alloc _).trans hF)
    have HO := Lib.hid ho; have HS := Lib.hid hs; have HLB := Lib.hid hlb; have HNW := Lib.hid hnw; have HOK := Lib.hid (mayB_ok ho); clear hF ho hs hlb hnw
    obtain ⟨p, HP⟩ : ∃ p, Hid (Kn.planarB X = p) := ⟨_, Lib.hid rfl⟩
    go_wp2_with fail; refine (planar_any s X L _ HS.out HOK.out.1 HOK.out.2).mono ?_; rintro e w5 ⟨rfl, hE⟩; rw [HP.out]; have HE := Lib.hid (HF.out.trans hE); have HW5 := Lib.hid (ShNew.new hE HNW.out); have HS5 := Lib.hid (New.shAt hE HS.out); clear hE
    cases p
    · go_wp2
      go_ret2
      exact ⟨HE.out, .inr ⟨by rw [HO.out, HP.out]; rfl, rfl⟩⟩
    · go_wp2_with fail
      refine (faces_any s X L _ HS5.out HOK.out.1 HOK.out.2).mono ?_; rintro e w6 ⟨v, rfl, hr, hE⟩; obtain ⟨fa, fc, rfl⟩ := hr.sl
      obtain ⟨m, hm⟩ : ∃ m, (Kn.facesL X).length = m := ⟨_, rfl⟩
      rw [hm] at hr ⊢; clear hm; have HS6 := Lib.hid (New.shAt hE HS5.out); have HR6 : Hid (Rows OwnD 0 71 w6 (.slice fa m fc) (Kn.facesL X)) := Lib.hid (Rows.base0 hr); have HE6 := Lib.hid (HE.out.trans hE); have HW6 := Lib.hid (ShNew.new hE HW5.out); clear hE hr; go_wp2; go_ret2; have hN : New w6 (w6.alloc (.cells #[.pointer (some ⟨s, 0, none⟩), (Value.slice fa m fc)] 64)) := (Fr.refl _ _).alloc _; obtain ⟨v, bi, bo, base, hsh, hbs⟩ := HW6.out; have hsh2 := hN.sh hsh; have h1 := HLB.out
      simp at h1 hbs
      refine ⟨HE6.out.trans hN, .inl ⟨by rw [HO.out, HP.out]; rfl, _, s, _, v, bi, bo, rfl, ⟨heap_alloc_new _ _, hsh2.blk, own_base hsh2.own (by omega), hsh2.ri, hsh2.ro, hsh2.ne, HE6.out.size, by omega⟩, RowsD.new HR6.out hN⟩⟩
  · have HF : Hid (New w w4) := Lib.hid (((Fr.refl _ _).alloc _).trans hF)
    have HO := Lib.hid ho; clear hF ho; go_wp2; go_ret2
    exact ⟨HF.out, .inr ⟨by rw [HO.out]; rfl, rfl⟩⟩
set_option maxRecDepth 100000 in
set_option maxHeartbeats 8000000 in
theorem do_g (g : Nat) (eg : ∀ args w, (callFunc g args).run Tryz.prog w = .ok (.enter g args) w) (a : Option Addr) (n c : Nat) (X : List Kn.Cr) (L k x y u vv : Int) (ub vb ov : Bool) (o : Out) (w : World) (hx : CrsAt w a X) (hn : n = X.length) (lx : n ≤ 9223372036854775807) (l1 : -9223372036854775808 ≤ L) (l2 : L ≤ 9223372036854775807)
    (hlk : ∀ (w : World) (b : Nat), w.heap[b]? = some (.map (kEs 5) 5) → (Instr.lookup 57 (.map (some b)) (.int .i64 k) false).run Tryz.prog w = .ok (.func (.func g) #[] #[]) w)
    (hcall : ∀ (D b s : Nat) (fv v : Value) (bi bo : Nat) (w : World), BW D w b s fv v bi bo X X L → Rows OwnD 0 71 w fv (Kn.facesL X) → Kn.Ok X → X.length ≤ 16 → 0 ≤ L → L ≤ 16 → Calls Tryz.prog g #[.pointer (some ⟨b, 0, none⟩), mvV k x y u vv ub vb ov] w (GaveP D b s fv o w)) :
    Calls Tryz.prog 6 #[.agg #[.slice a n c, .int .i64 L], mvV k x y u vv ub vb ov] w (GaveDo (if Kn.mayB X L && Kn.planarB X then o else .no 7) w) := by
  have HX := Lib.hid hx; have HN := Lib.hid hn; have HLK := Lib.hid hlk; have HCALL := Lib.hid hcall
  have hnil : ∀ w, (binOp .eql 56 (.func (.func g) #[] #[]) .nilFunc).run Tryz.prog w = .ok (.bool false) w := fun w => by kernel_rfl
  have hmf : ∀ (fn : Fn) (first cap : Array Value) (w : World), (Instr.makeFunc fn first cap).run Tryz.prog w = .ok (.func fn first cap) w := fun _ _ _ _ => rfl
  clear hx hn hlk hcall
  obtain ⟨oo, HOO⟩ : ∃ oo, Hid (oo = if Kn.mayB X L && Kn.planarB X then o else Out.no 7) := ⟨_, Lib.hid rfl⟩
  rw [← HOO.out]
  obtain ⟨w1, HW1⟩ : ∃ w1, Hid (w1 = (((w.alloc (.cells #[.slice a n c, .int .i64 L] 24)).alloc (.cells #[.int .i64 k, .int .i64 x, .int .i64 y, .int .i64 u, .bool ub, .int .i64 vv, .bool vb, .bool ov] 28)).alloc (.cells #[.slice none 0 0, .int .i64 0] 24)).alloc (.cells #[.int .i64 0] 30)) := ⟨_, Lib.hid rfl⟩
  obtain ⟨B1, HB1⟩ : ∃ B, Hid (B = w.heap.size + 1) := ⟨_, Lib.hid rfl⟩
  obtain ⟨B2, HB2⟩ : ∃ B, Hid (B = w.heap.size + 1 + 1) := ⟨_, Lib.hid rfl⟩
  obtain ⟨B3, HB3⟩ : ∃ B, Hid (B = w.heap.size + 1 + 1 + 1) := ⟨_, Lib.hid rfl⟩
  have HN1 : Hid (New w w1) := Lib.hid (by rw [HW1.out]; exact ((((Fr.refl _ w).alloc _).alloc _).alloc _).alloc _)
  have HM1 : Hid (w1.heap[B1]? = some (.cells #[.int .i64 k, .int .i64 x, .int .i64 y, .int .i64 u, .bool ub, .int .i64 vv, .bool vb, .bool ov] 28 (0, 0))) := Lib.hid (by
    have h := heap_alloc_new (w.alloc (.cells #[.slice a n c, .int .i64 L] 24)) (.cells #[.int .i64 k, .int .i64 x, .int .i64 y, .int .i64 u, .bool ub, .int .i64 vv, .bool vb, .bool ov] 28); rw [World.size_alloc] at h; rw [HW1.out, HB1.out]
    exact (((Fr.refl (fun _ => False) _).alloc _).alloc _).blk h fun x => x)
  have HR1 : Hid (w1.heap[B2]? = some (.cells #[.slice none 0 0, .int .i64 0] 24 (0, 0))) := Lib.hid (by
    have h := heap_alloc_new ((w.alloc (.cells #[.slice a n c, .int .i64 L] 24)).alloc (.cells #[.int .i64 k, .int .i64 x, .int .i64 y, .int .i64 u, .bool ub, .int .i64 vv, .bool vb, .bool ov] 28)) (.cells #[.slice none 0 0, .int .i64 0] 24); rw [World.size_alloc, World.size_alloc] at h; rw [HW1.out, HB2.out]
    exact ((Fr.refl (fun _ => False) _).alloc _).blk h fun x => x)
  have HE1 : Hid (w1.heap[B3]? = some (.cells #[.int .i64 0] 30 (0, 0))) := Lib.hid (by
    have h := heap_alloc_new (((w.alloc (.cells #[.slice a n c, .int .i64 L] 24)).alloc (.cells #[.int .i64 k, .int .i64 x, .int .i64 y, .int .i64 u, .bool ub, .int .i64 vv, .bool vb, .bool ov] 28)).alloc (.cells #[.slice none 0 0, .int .i64 0] 24)) (.cells #[.int .i64 0] 30); rw [World.size_alloc, World.size_alloc, World.size_alloc] at h; rw [HW1.out, HB3.out]
    exact h)
  have hsz1 : w1.heap.size = w.heap.size + 1 + 1 + 1 + 1 := by rw [HW1.out, World.size_alloc, World.size_alloc, World.size_alloc, World.size_alloc]
  have HSZ := Lib.hid hsz1; clear hsz1
  go_enter_defers Tryz.func6, Tryz.ntmps6
  go_wp2_with fail; rw [← HW1.out, ← HB3.out, ← HB2.out, ← HB1.out]; refine (open2_any a n c X L w1 (New.crs HN1.out HX.out) HN.out lx l1 l2).mono ?_; rintro e w2 ⟨hF, h5⟩
  rcases h5 with ⟨ho, b, s, fv, v, bi, bo, rfl, hbe, hro⟩ | ⟨ho, rfl⟩
  · have HN2 := Lib.hid (HN1.out.trans hF)
    have HM2 := Lib.hid (hF.blk HM1.out fun x => x); have HR2 := Lib.hid (hF.blk HR1.out fun x => x); have HE2 := Lib.hid (hF.blk HE1.out fun x => x)
    obtain ⟨D, HD⟩ : ∃ D, Hid (D = w1.heap.size) := ⟨_, Lib.hid rfl⟩
    rw [← HD.out] at hbe; have HBE := Lib.hid hbe; have HRO := Lib.hid hro; have HO : Hid (oo = o) := Lib.hid (by rw [HOO.out, ho]; rfl)
    have HOK : Hid (Kn.Ok X ∧ X.length ≤ 16 ∧ 0 ≤ L ∧ L ≤ 16) := Lib.hid (by
      rw [Bool.and_eq_true] at ho; have h1 := mayB_ok ho.1; have h2 := ho.1
      unfold Kn.mayB at h2
      simp only [Bool.and_eq_true, decide_eq_true_eq] at h2
      exact ⟨h1.1, h1.2, h2.1.1.1.2, h2.1.1.2⟩)
    have hB2s : ¬ D ≤ B2 := by have := HD.out; have := HSZ.out; have := HB2.out; omega
    have hB3s : ¬ D ≤ B3 := by have := HD.out; have := HSZ.out; have := HB3.out; omega
    have hsw : w.heap.size ≤ D := by have := HD.out; have := HSZ.out; omega
    have hB32 : ¬ B3 = B2 := by have := HB2.out; have := HB3.out; omega
    have hB2w : w.heap.size ≤ B2 := by have := HB2.out; omega
    have hB3w : w.heap.size ≤ B3 := by have := HB3.out; omega
    clear hF ho hbe hro; go_wp2_with fail; have HP0 : Hid (New w2 w2.drew) := Lib.hid (Fr.refl _ w2).drew; have hS0 := (eight_c (HP0.out.blk HM2.out fun x => x)).1
    refine wp_only ?_
    refine wp_region_held_drew (S := fun wz => wz.cell? ⟨B1, 0, none⟩ = some (.int .i64 k)) (by kernel_rfl) hS0 (fun hHeld => ?_)
    clear hS0; generalize w2.drew = r0 at hHeld HP0 ⊢; refine' tkO (i := 1) ?_; (try simp only [Act.put, lq1, lq2, lq3, lq4, lq5, lq6]); refine' tkO (i := 2) ?_; (try simp only [Act.put, lq1, lq2, lq3, lq4, lq5, lq6]); refine rdO (i := 0) (fun K hK => ?_); (try simp only [lq1, lq2]); go_simp; refine (kinds_any _).mono ?_; rintro e r1 ⟨mb, rfl, hF, hm⟩; have HP1 := Lib.hid (HP0.out.trans hF); have HMB := Lib.hid hm; clear hF hm; go_wp2_with fail; refine hK.out _ _ ((eight_c (HP1.out.blk HM2.out fun x => x)).1) (fun hHeld => ?_); clear hK K
    (try simp only [Act.put, lq1, lq2, lq3, lq4, lq5, lq6]); refine rdO (i := 3) (fun K hK => ?_); (try simp only [lq1, lq2, lq3]); have hl := HLK.out _ _ HMB.out; go_simp; clear hl; refine hK.out _ _ ((eight_c (HP1.out.blk HM2.out fun x => x)).1) (fun hHeld => ?_); clear hK K; (try simp only [Act.put, lq1, lq2, lq3, lq4, lq5, lq6]); refine' tkO (i := 4) ?_; (try simp only [Act.put, lq1, lq2, lq3, lq4, lq5, lq6]); refine wpAnyH_done (by kernel_rfl) ?_ _
    dsimp only
    have HBE1 := Lib.hid (HBE.out.new HP1.out); have HRO1 := Lib.hid (RowsD.new HRO.out HP1.out); have HN3 := Lib.hid (HN2.out.trans HP1.out); have HM3 := Lib.hid (HP1.out.blk HM2.out fun x => x); have HR3 := Lib.hid (HP1.out.blk HR2.out fun x => x); have HE3 := Lib.hid (HP1.out.blk HE2.out fun x => x); obtain ⟨m0, m1, m2, m3, m4, m5, m6, m7⟩ := eight_c HM3.out; go_wp2_with fail; clear m0 m1 m2 m3 m4 m5 m6 m7; refine (HCALL.out D b s fv v bi bo r1 HBE1.out HRO1.out HOK.out.1 HOK.out.2.1 HOK.out.2.2.1 HOK.out.2.2.2).mono ?_; rintro e r2 ⟨hF, hM⟩
    have HN4 : Hid (New w r2) := Lib.hid (HN3.out.next hF fun i hi => .inr (Nat.le_trans hsw hi)); have HR4 := Lib.hid (hF.blk HR3.out hB2s); have HE4 := Lib.hid (hF.blk HE3.out hB3s); clear hF
    cases o with
    | no x' =>
      obtain rfl := hM; go_wp2
      refine leaves_cons (f := 19) (args := #[.pointer (some ⟨B2, 0, none⟩), .pointer (some ⟨B3, 0, none⟩)]) (by simp) (by simp [go_sem]) ?_
      refine (do1_panic B2 B3 24 30 x' 0 _ _ r2 (fun e => hB32 e.symm) HR4.out HE4.out).mono ?_; rintro r u' w' ⟨rfl, rfl, hFr, h1, h2, h3⟩
      refine ⟨.tuple #[.agg #[.slice none 0 0, .int .i64 0], .int .i64 x'], by simp [results, Tryz.results6, go_sem, h1, h2, h3], HN4.out.next hFr fun i hi => .inr (by omega), ?_⟩
      rw [HO.out]
    | ok Y L' =>
      obtain ⟨rfl, hbk, ya, yc, hy0, hy1, hyc, hyf⟩ := hM; have HYF := Lib.hid hyf; clear hyf; have HYC := Lib.hid hyc; clear hyc; obtain ⟨c0, _⟩ := box2_c hbk; clear hbk
      obtain ⟨ny, HNY⟩ : ∃ ny, Hid (ny = Y.length) := ⟨_, Lib.hid rfl⟩
      rw [← HNY.out] at hy0; obtain ⟨⟨_, a1⟩, a2, ⟨_, b1⟩, b2, ⟨_, c1⟩, c2, d1, d2, d3, fr⟩ := sto HR4.out HE4.out hB32 (.slice ya ny yc) (.int .i64 L') (.int .i64 0); have HFC : Hid (∀ w', Fr (fun k => k = B2 ∨ k = B3) r2 w' → CrsAt w' ya Y) := Lib.hid (fun w' hf => HYC.out.off HR4.out HE4.out hf); have HFR := Lib.hid fr; clear fr; go_wp2
      refine leaves_cons (f := 19) (args := #[.pointer (some ⟨B2, 0, none⟩), .pointer (some ⟨B3, 0, none⟩)]) (by simp) (by simp [go_sem]) ?_
      refine (do1_idle B2 B3 _).mono ?_; rintro r u' w' ⟨rfl, rfl, rfl⟩
      refine ⟨.tuple #[.agg #[.slice ya ny yc, .int .i64 L'], .int .i64 0], by simp [results, Tryz.results6, go_sem, d1, d2, d3], HN4.out.next HFR.out fun i hi => .inr (by omega), ?_⟩
      rw [HO.out]
      refine ⟨ya, yc, by rw [HNY.out], HFC.out _ HFR.out, fun ad e => Nat.le_trans hsw (HYF.out ad e)⟩
  · have HN2 := Lib.hid (HN1.out.trans hF)
    have HR2 := Lib.hid (hF.blk HR1.out fun x => x); have HE2 := Lib.hid (hF.blk HE1.out fun x => x); have HO : Hid (oo = .no 7) := Lib.hid (by rw [HOO.out, ho]; rfl); clear hF ho; obtain ⟨⟨_, a1⟩, a2, ⟨_, b1⟩, b2, ⟨_, c1⟩, c2, d1, d2, d3, fr⟩ := sto HR2.out HE2.out (by have := HB2.out; have := HB3.out; omega) (.slice none 0 0) (.int .i64 0) (.int .i64 7); have HF3 := Lib.hid (HN2.out.next fr fun i hi => .inr (by have := HB2.out; have := HB3.out; omega)); clear fr; go_wp2
    refine ⟨.tuple #[.agg #[.slice none 0 0, .int .i64 0], .int .i64 7], by simp [results, Tryz.results6, go_sem, d1, d2, d3], HF3.out, ?_⟩
    rw [HO.out]
theorem GaveO.P {D b s bi bo : Nat} {fv v : Value} {X : List Kn.Cr} {L : Int} {o : Out} {w w' : World} {e : Ending} (h : BW D w b s fv v bi bo X X L) (k : GaveO s o w e w') : GaveP D b s fv o w e w' := by
  obtain ⟨hF, hM⟩ := k
  refine ⟨hF.mono fun k e => by rw [e]; exact h.ls, ?_⟩
  cases o with
  | no x => exact hM
  | ok Y N =>
    obtain ⟨h1, a, c, h2, h3, h4, h5⟩ := hM
    refine ⟨h1, hF.blk h.blk h.sne, a, c, h2, h3, h4, fun ad e => ?_⟩
    have h6 := h5 ad e; have h7 := h.lb; have h8 := (Array.getElem?_eq_some_iff.1 h.blk).1
    omega
section
variable (a : Option Addr) (n c : Nat) (X : List Kn.Cr) (L x y u v : Int) (ub vb ov : Bool) (w : World) (hx : CrsAt w a X) (hn : n = X.length) (lx : n ≤ 9223372036854775807) (l1 : -9223372036854775808 ≤ L) (l2 : L ≤ 9223372036854775807)
include hx hn lx l1 l2
theorem do_curl : Calls Tryz.prog 6 #[.agg #[.slice a n c, .int .i64 L], mvV 1 x y u v ub vb ov] w (GaveDo (doO X L (curlO X L x y)) w) :=
  do_g 27 Tryz.func27' a n c X L 1 x y u v ub vb ov _ w hx hn lx l1 l2 klook1 fun D b s fv v' bi bo w h _ hX hl h1 h2 => curl_any D b s fv v' bi bo X L 1 x y u v ub vb ov w h hX hl h1 h2
theorem do_un2 : Calls Tryz.prog 6 #[.agg #[.slice a n c, .int .i64 L], mvV 2 x y u v ub vb ov] w (GaveDo (doO X L (unO X L x)) w) :=
  do_g 28 Tryz.func28' a n c X L 2 x y u v ub vb ov _ w hx hn lx l1 l2 klook2 fun _D b s fv _v' _bi _bo w h _ hX hl h1 h2 => (uncurl_any b s fv X L 2 x y u v ub vb ov w h.at hX hl h1 h2).mono fun _ _ k => k.P h
theorem do_push : Calls Tryz.prog 6 #[.agg #[.slice a n c, .int .i64 L], mvV 3 x y u v ub vb ov] w (GaveDo (doO X L (pushO X L u v ub vb ov)) w) :=
  do_g 29 Tryz.func29' a n c X L 3 x y u v ub vb ov _ w hx hn lx l1 l2 klook3 fun D b s fv v' bi bo w h hr hX hl _ _ => push_any D b s fv v' bi bo X L 3 x y u v ub vb ov w h hr hX hl
theorem do_pull2 : Calls Tryz.prog 6 #[.agg #[.slice a n c, .int .i64 L], mvV 4 x y u v ub vb ov] w (GaveDo (doO X L (pullO X L x y)) w) :=
  do_g 30 Tryz.func30' a n c X L 4 x y u v ub vb ov _ w hx hn lx l1 l2 klook4 fun _D b s fv _v' _bi _bo w h hr hX hl h1 h2 => (pull_any b s fv X L 4 x y u v ub vb ov w h.at hr hX hl h1 h2).mono fun _ _ k => k.P h
theorem do_slide : Calls Tryz.prog 6 #[.agg #[.slice a n c, .int .i64 L], mvV 5 x y u v ub vb ov] w (GaveDo (doO X L (slideO X L x)) w) :=
  do_g 31 Tryz.func31' a n c X L 5 x y u v ub vb ov _ w hx hn lx l1 l2 klook5 fun D b s fv v' bi bo w h hr hX hl _ _ => slide_any D b s fv v' bi bo X L 5 x y u v ub vb ov w h hr hX hl
end
end Go.Proofs.YtgjmjbgicfkojaaGreat

/- Walks: simpler. -/
namespace Go.Proofs.YtgjmjbgicfkojaaGreat
open Go.RowKit

end Go.Proofs.YtgjmjbgicfkojaaGreat

/- Walks: Simple: words. -/
namespace Go.Proofs.YtgjmjbgicfkojaaGreat
open Go.RowKit

def Mv.cells : Mv → List Value
  | .un c => [.int .i64 2, .int .i64 (c : Nat), .int .i64 0, .int .i64 0, .bool false, .int .i64 0, .bool false, .bool false]
  | .pu a c => [.int .i64 4, .int .i64 (a : Nat), .int .i64 (c : Nat), .int .i64 0, .bool false, .int .i64 0, .bool false, .bool false]
def mvCells (ms : List Mv) : List Value := ms.flatMap Mv.cells
structure SmS (w wr : World) (B2 B7 : Nat) (X : List Kn.Cr) (L : Int) (ms : List Mv) (Y : List Kn.Cr) (N : Int) (ya : Option Addr) (yc : Nat) (v : Value) : Prop where
  new : New w wr
  res : wr.heap[B2]? = some (.cells #[.slice none 0 0, .int .i64 0] 24 (0, 0))
  now : wr.heap[B7]? = some (.cells #[.slice ya Y.length yc, .int .i64 N] 24 (0, 0))
  crs : CrsAt wr ya Y
  own : wr.ownsRow w.heap.size 28 8 v ms.length (mvCells ms)
  run : runM X L ms = some (Y, N)
  good : Good Y N
  len : ms.length + Y.length ≤ X.length
  l2 : w.heap.size ≤ B2
  l7 : w.heap.size ≤ B7
  ne : ¬ B2 = B7
  gx : Good X L
section
variable {w wr w' : World} {B2 B7 : Nat} {X : List Kn.Cr} {L : Int} {ms : List Mv} {Y : List Kn.Cr} {N : Int} {ya : Option Addr} {yc : Nat} {v : Value}
end
end Go.Proofs.YtgjmjbgicfkojaaGreat

/- Walks: Simple. -/
namespace Go.Proofs.YtgjmjbgicfkojaaGreat
open Go.RowKit

end Go.Proofs.YtgjmjbgicfkojaaGreat

/- Walks: Row, of moves that are done. -/
namespace Go.Proofs.YtgjmjbgicfkojaaGreat
open Go.RowKit

structure RwS (w wr : World) (B2 B7 : Nat) (ms : List Mv) (Z : List Kn.Cr) (K : Int) (Y : List Kn.Cr) (N : Int) (ya : Option Addr) (yc : Nat) : Prop where
  new : New w wr
  res : wr.heap[B2]? = some (.cells #[.slice none 0 0, .int .i64 0] 24 (0, 0))
  now : wr.heap[B7]? = some (.cells #[.slice ya Y.length yc, .int .i64 N] 24 (0, 0))
  crs : CrsAt wr ya Y
  run : runM Y N ms = some (Z, K)
  good : Good Y N
  l7 : w.heap.size ≤ B7
  ne : ¬ B2 = B7
theorem RwS.step {w wr w6 : World} {B2 B7 : Nat} {m : Mv} {ms : List Mv} {Z : List Kn.Cr} {K : Int} {Y Y' : List Kn.Cr} {N N' : Int} {ya za : Option Addr} {yc zc : Nat} (h : RwS w wr B2 B7 (m :: ms) Z K Y N ya yc) (hN : New wr w6) (hz : CrsAt w6 za Y') (hf : ∀ ad, za = some ad → wr.heap.size ≤ ad.block) (hd : doM Y N m = .ok Y' N') :
    RwS w (set2 w6 B7 (.slice za Y'.length zc) (.int .i64 N')) B2 B7 ms Z K Y' N' za zc := by
  have hS := set2_fr w6 B7 (.slice za Y'.length zc) (.int .i64 N'); have hb7 := (Array.getElem?_eq_some_iff.1 h.now).1; have hr := h.run; have hr : (match doM Y N m with | .ok Y N => runM Y N ms | .no _ => none) = some (Z, K) := hr; rw [hd] at hr
  exact ⟨(h.new.trans hN).next hS fun i hi => .inr (by rw [hi]; exact h.l7), hS.blk (hN.blk h.res fun x => x) h.ne, set2_blk (hN.blk h.now fun x => x) _ _, hz.off2 (fun ad e hk => by have := hf ad e; omega) hS, hr, (doM_good h.good hd).1, h.l7, h.ne⟩
end Go.Proofs.YtgjmjbgicfkojaaGreat

/- Walks: Form and Canon at a diagram without crossings; Canon at any diagram. -/
namespace Go.Proofs.YtgjmjbgicfkojaaGreat
open Go.RowKit

theorem ok_nil : Kn.Ok [] := (Kn.ok_iff []).1 (by decide)
set_option maxRecDepth 100000 in
set_option maxHeartbeats 4000000 in
theorem form_nil (b : Nat) (L : Int) (w : World) (h : ShAt w b [] L) :
    Calls Tryz.prog 26 #[.pointer (some ⟨b, 0, none⟩)] w (GaveForm [] L w) := by
  have hmm := @run_makeMap Tryz.prog; have HS00 := Lib.hid h; clear h
  go_enter Tryz.func26, Tryz.ntmps26
  go_wp2_with fail
  obtain ⟨wa, HWA⟩ : ∃ wa, Hid (wa = w.alloc (.cells #[.slice none 0 0, .int .i64 0] 24)) := ⟨_, Lib.hid rfl⟩
  rw [← HWA.out]; have HNA : Hid (New w wa) := Lib.hid (by rw [HWA.out]; exact (Fr.refl _ w).alloc _); have HRES : Hid (wa.heap[w.heap.size]? = some (.cells #[.slice none 0 0, .int .i64 0] 24 (0, 0))) := Lib.hid (by rw [HWA.out]; exact heap_alloc_new _ _); have HS := Lib.hid (New.shAt HNA.out HS00.out)
  go_wp2_with (go_at_call 33; refine (pieces_any b [] L _ (HS.out) ok_nil (by simp)).mono ?_; rintro e w2 ⟨pv, rfl, hrp, hE⟩; obtain ⟨ap, cp, e0⟩ := hrp.sl; change pv = .slice ap 0 cp at e0; subst e0; have HE2 := Lib.hid hE; clear hrp hE)
  refine wp_loop_rounds 1 ?_
  rw [rounds_succ]
  go_wp2_with (go_at_call 42; refine (sortV_own w2.heap.size (.slice none 0 0) [] w2 ⟨rfl, .inl ⟨rfl, rfl⟩⟩ (fun t ht => by cases ht) (by simp)).mono ?_; rintro e w7 ⟨rfl, ts', hp, _, hown, hg⟩; have HN7 : Hid (New wa w7) := Lib.hid (HE2.out.grown hg fun k e => by cases e); have HLO := (ShAt.loops (New.shAt HN7.out HS.out)); clear hp hown hg)
  refine wp_loop_rounds 1 ?_
  rw [rounds_succ]; have hF7 := ((HN7.out.alloc (.cells #[.slice none 0 0, .int .i64 L] 24)).alloc (.map #[] 0)).alloc (.cells #[.map (some (w7.heap.size + 1))] 80)
  have hb0 := hF7.blk HRES.out fun x => x
  have hbD := (((Fr.refl (fun _ => False) (w7.alloc (.cells #[.slice none 0 0, .int .i64 L] 24))).alloc (.map #[] 0)).alloc (.cells #[.map (some (w7.heap.size + 1))] 80)).blk (heap_alloc_new w7 (.cells #[.slice none 0 0, .int .i64 L] 24)) fun x => x
  obtain ⟨d0, d1, _, _⟩ := box2_c hbD; have hb1 := (box2_set hb0 (.slice none 0 0)).1; have hb2 := (box2_set hb1 (.int .i64 L)).2; obtain ⟨e0, _, z0, _⟩ := box2_c hb0; obtain ⟨_, e1, _, z1⟩ := box2_c hb1; obtain ⟨m5, m6, _, _⟩ := box2_c hb2; have HB0 := Lib.hid hb0; have HF7 := Lib.hid hF7; clear hb0 hb1 hb2 hbD hF7; go_wp2
  refine bodyPost_ret (v := .agg #[.slice none 0 0, .int .i64 L]) (by simp [results, Tryz.results26, go_sem, m5, m6]) rfl ⟨_, rfl, ⟨rfl, .inl ⟨rfl, rfl⟩⟩, ?_⟩
  exact (HNA.out.trans HF7.out).next (Fr.setCell (Fr.setCell (Fr.refl (fun k => k = w.heap.size) _) (.inl rfl) _) (.inl rfl) _) fun i hi => .inr (by rw [hi]; exact Nat.le_refl _)
theorem formL_nil : Kn.formL [] = [] := by decide

def GaveCanon (ok : Bool) (X : List Kn.Cr) (L : Int) (w : World) (e : Ending) (w' : World) : Prop :=
  New w w' ∧ ((ok = true ∧ ∃ sc, e = .returned (.tuple #[.agg #[sc, .int .i64 L], .int .i64 0]) ∧ w'.ownsRow w.heap.size 75 5 sc X.length (crCells X)) ∨ (ok = false ∧ e = .returned (.tuple #[.agg #[.slice none 0 0, .int .i64 0], .int .i64 7])))
set_option maxHeartbeats 2000000 in
theorem canon_all (a : Option Addr) (n c : Nat) (X : List Kn.Cr) (L : Int) (w : World) (hx : CrsAt w a X) (hn : n = X.length) (lx : n ≤ 9223372036854775807) (l1 : -9223372036854775808 ≤ L) (l2 : L ≤ 9223372036854775807) :
    Calls Tryz.prog 15 #[.agg #[.slice a n c, .int .i64 L]] w (GaveCanon (Kn.mayB X L) (Kn.formL X) L w) := by
  by_cases hm : Kn.mayB X L = true
  · by_cases hne : X = []
    · subst hne
      have HN := Lib.hid hn; have HX := Lib.hid hx; have HO := Lib.hid hm; clear hx hn hm; rw [formL_nil, HO.out]
      go_enter Tryz.func15, Tryz.ntmps15
      go_wp2_with (first
        | (go_at_call 20; refine (new_any a n c [] L _ (New.crs (((Fr.refl _ _).alloc _).alloc _) HX.out) HN.out lx l1 l2).mono ?_; rintro e w4 ⟨hF, h5⟩; obtain ⟨_, b, rfl, hs, _⟩ := h5.resolve_right (fun h => by have h1 := h.1; rw [HO.out] at h1; cases h1); have HF := Lib.hid hF; have HS := Lib.hid hs; clear hF hs h5)
        | (go_at_call 26; refine (form_nil b L _ HS.out).mono ?_; rintro e w5 ⟨sc, rfl, hr, hE⟩; obtain ⟨a1, c1, e0, _⟩ := own_shape2 hr; change sc = .slice a1 0 c1 at e0; subst e0; have HR := Lib.hid hr; have HE := Lib.hid hE; have hb0 := (HF.out.trans hE).blk (show ((w.alloc (.cells #[.slice a n c, .int .i64 L] 24)).alloc (.cells #[.slice none 0 0, .int .i64 0] 24)).heap[w.heap.size + 1]? = some (.cells #[.slice none 0 0, .int .i64 0] 24 (0, 0)) by have := heap_alloc_new (w.alloc (.cells #[.slice a n c, .int .i64 L] 24)) (.cells #[.slice none 0 0, .int .i64 0] 24); rwa [World.size_alloc] at this) fun x => x; have HB := Lib.hid hb0; obtain ⟨e0, _, z0, _⟩ := box2_c hb0; have hb1 := (box2_set hb0 (.slice a1 0 c1)).1; obtain ⟨_, e1, _, z1⟩ := box2_c hb1; obtain ⟨m5, m6, _, _⟩ := box2_c (box2_set hb1 (.int .i64 L)).2; clear hr hE hb0 hb1))
      have hN : New w w4 := (((Fr.refl _ w).alloc _).alloc _).trans HF.out
      have hS : Fr (fun k => k = w.heap.size + 1) w5 ((w5.setCell ⟨w.heap.size + 1, 0, none⟩ (.slice a1 0 c1)).setCell ⟨w.heap.size + 1, 1, none⟩ (.int .i64 L)) := by refine Fr.setCell (Fr.setCell (Fr.refl _ w5) ?_ _) ?_ _ <;> exact .inl rfl
      refine bodyPost_ret (v := .tuple #[.agg #[.slice a1 0 c1, .int .i64 L], .int .i64 0]) (by simp [results, Tryz.results15, go_sem, m5, m6]) rfl ⟨(hN.trans HE.out).next hS fun i hi => .inr (by rw [hi]; exact Nat.le_succ _), .inl ⟨rfl, _, rfl, ?_⟩⟩
      exact own_base (hS.owns HR.out fun k hk e => blk_not_own HB.out HR.out (by decide) (e ▸ hk)) hN.size
    · refine (canon_any a n c X L w hx hn lx l1 l2 hm hne).mono ?_
      rintro e w' ⟨sc, rfl, h1, h2⟩
      exact ⟨h2, .inl ⟨hm, sc, rfl, h1⟩⟩
  · have hm' : Kn.mayB X L = false := by rw [Bool.eq_false_iff]; exact hm
    have HN := Lib.hid hn; have HX := Lib.hid hx; have HO := Lib.hid hm'; clear hx hn hm; rw [hm']; clear hm'
    go_enter Tryz.func15, Tryz.ntmps15
    go_wp2_with (go_at_call 20; refine (new_any a n c X L _ (New.crs (((Fr.refl _ _).alloc _).alloc _) HX.out) HN.out lx l1 l2).mono ?_; rintro e w4 ⟨hF, h5⟩; obtain ⟨_, rfl⟩ := h5.resolve_left (fun h => by have h1 := h.1; rw [HO.out] at h1; cases h1); have HF := Lib.hid hF; have hb0 := hF.blk (show ((w.alloc (.cells #[.slice a n c, .int .i64 L] 24)).alloc (.cells #[.slice none 0 0, .int .i64 0] 24)).heap[w.heap.size + 1]? = some (.cells #[.slice none 0 0, .int .i64 0] 24 (0, 0)) by have := heap_alloc_new (w.alloc (.cells #[.slice a n c, .int .i64 L] 24)) (.cells #[.slice none 0 0, .int .i64 0] 24); rwa [World.size_alloc] at this) fun x => x; obtain ⟨e0, _, z0, _⟩ := box2_c hb0; have hb1 := (box2_set hb0 (.slice none 0 0)).1; obtain ⟨_, e1, _, z1⟩ := box2_c hb1; obtain ⟨m5, m6, _, _⟩ := box2_c (box2_set hb1 (.int .i64 0)).2; clear hF h5 hb0 hb1)
    have hN : New w w4 := (((Fr.refl _ w).alloc _).alloc _).trans HF.out
    refine bodyPost_ret (v := .tuple #[.agg #[.slice none 0 0, .int .i64 0], .int .i64 7]) (by simp [results, Tryz.results15, go_sem, m5, m6]) rfl ⟨?_, .inr ⟨rfl, rfl⟩⟩
    exact hN.next (Fr.setCell (Fr.setCell (Fr.refl (fun k => k = w.heap.size + 1) _) (.inl rfl) _) (.inl rfl) _) fun i hi => .inr (by rw [hi]; exact Nat.le_succ _)
end Go.Proofs.YtgjmjbgicfkojaaGreat

/- Walks: slices.Equal of crossings. -/
namespace Go.Proofs.YtgjmjbgicfkojaaGreat
open Go.RowKit

theorem Tryz.eq42a : Tryz.prog.eqGuardType Tryz.prog.depth 75 = false := by kernel_rfl
theorem Tryz.eq42b : Tryz.prog.stoodInHeld 75 = false := by kernel_rfl
theorem Tryz.eq42c : Tryz.prog.underlying 75 = some (.struct (Tryz.prog.fieldsOf 75)) := by kernel_rfl
theorem Tryz.eq42d : (Tryz.prog.fieldsOf 75).toList.map (fun f => (f.type, f.name, f.offset)) = [(3, "A", 0), (3, "B", 1), (3, "C", 2), (3, "D", 3), (4, "Plus", 4)] := by kernel_rfl
theorem Tryz.infoB : (Tryz.prog.info? 4).map (fun i => (i.zero, i.size, i.bytes)) = some (some (.bool false), 1, 1) := by kernel_rfl
theorem ne42 (w : World) (x y : Kn.Cr) : (binOp .neq 75 (crV x) (crV y)).run Tryz.prog w = .ok (.bool (!decide (x = y))) w := by
  obtain ⟨a, b, c, d, p⟩ := x; obtain ⟨a', b', c', d', p'⟩ := y
  show (binOp .neq 75 (.agg #[.int .i64 a, .int .i64 b, .int .i64 c, .int .i64 d, .bool p]) (.agg #[.int .i64 a', .int .i64 b', .int .i64 c', .int .i64 d', .bool p'])).run Tryz.prog w = _
  rw [run_neq_struct, run_equalIn_agg _ _ _ _ _ Tryz.eq42c Tryz.eq42b]; have h4 := Tryz.eq42d
  rcases h : (Tryz.prog.fieldsOf 75).toList with _ | ⟨f1, _ | ⟨f2, _ | ⟨f3, _ | ⟨f4, _ | ⟨f5, _ | ⟨f6, r⟩⟩⟩⟩⟩⟩ <;> simp [h] at h4
  obtain ⟨⟨t1, n1, o1⟩, ⟨t2, n2, o2⟩, ⟨t3, n3, o3⟩, ⟨t4, n4, o4⟩, t5, n5, o5⟩ := h4; have hu := Tryz.underlying3; have hb := Tryz.underlying4; obtain ⟨i0, hi0, _, hz2, _⟩ := info_parts Tryz.info3; obtain ⟨i1, hi1, _, hz4, _⟩ := info_parts Tryz.infoB
  have key : (decide ((⟨a, b, c, d, p⟩ : Kn.Cr) = ⟨a', b', c', d', p'⟩)) = (a == a' && (b == b' && (c == c' && (d == d' && p == p')))) := by
    rw [Bool.eq_iff_iff]; simp
  rw [key]
  cases h1 : a == a'
  · simp [go_sem, Op.eqFields, n1, n2, n3, n4, n5, t1, t2, t3, t4, t5, o1, o2, o3, o4, o5, part, sizeOf, typeInfo, hi0, hz2, hi1, hz4, run_equalIn_int _ _ _ .i64 .i64 _ _ hu, run_equalIn_bool _ _ _ _ _ hb, h1]
  cases h2 : b == b'
  · simp [go_sem, Op.eqFields, n1, n2, n3, n4, n5, t1, t2, t3, t4, t5, o1, o2, o3, o4, o5, part, sizeOf, typeInfo, hi0, hz2, hi1, hz4, run_equalIn_int _ _ _ .i64 .i64 _ _ hu, run_equalIn_bool _ _ _ _ _ hb, h1, h2]
  cases h3 : c == c'
  · simp [go_sem, Op.eqFields, n1, n2, n3, n4, n5, t1, t2, t3, t4, t5, o1, o2, o3, o4, o5, part, sizeOf, typeInfo, hi0, hz2, hi1, hz4, run_equalIn_int _ _ _ .i64 .i64 _ _ hu, run_equalIn_bool _ _ _ _ _ hb, h1, h2, h3]
  cases h4 : d == d'
  · simp [go_sem, Op.eqFields, n1, n2, n3, n4, n5, t1, t2, t3, t4, t5, o1, o2, o3, o4, o5, part, sizeOf, typeInfo, hi0, hz2, hi1, hz4, run_equalIn_int _ _ _ .i64 .i64 _ _ hu, run_equalIn_bool _ _ _ _ _ hb, h1, h2, h3, h4]
  cases h5 : p == p' <;> simp [go_sem, Op.eqFields, n1, n2, n3, n4, n5, t1, t2, t3, t4, t5, o1, o2, o3, o4, o5, part, sizeOf, typeInfo, hi0, hz2, hi1, hz4, run_equalIn_int _ _ _ .i64 .i64 _ _ hu, run_equalIn_bool _ _ _ _ _ hb, h1, h2, h3, h4, h5]
theorem ne42v (w : World) (a b c d : Int) (p : Bool) (a' b' c' d' : Int) (p' : Bool) (r : Bool) (hr : r = !decide ((⟨a, b, c, d, p⟩ : Kn.Cr) = ⟨a', b', c', d', p'⟩)) :
    (binOp .neq 75 (.agg #[.int .i64 a, .int .i64 b, .int .i64 c, .int .i64 d, .bool p]) (.agg #[.int .i64 a', .int .i64 b', .int .i64 c', .int .i64 d', .bool p'])).run Tryz.prog w = .ok (.bool r) w := by
  rw [hr]; exact ne42 w ⟨a, b, c, d, p⟩ ⟨a', b', c', d', p'⟩
theorem cr_ext {X Y : List Kn.Cr} (hl : X.length = Y.length) (h : ∀ j, j < X.length → Kn.cr X j = Kn.cr Y j) : X = Y := by
  refine List.ext_getElem hl fun i h1 h2 => ?_
  have := h i h1
  simpa [Kn.cr, List.getD_eq_getElem?_getD, h1, h2] using this
theorem cr_ne {X Y : List Kn.Cr} {k : Nat} (h : Kn.cr X k ≠ Kn.cr Y k) : X ≠ Y := fun e => h (by rw [e])
theorem cr_parts (X : List Kn.Cr) (k : Nat) : ∃ a b c d p, Hid (Kn.cr X k = ⟨a, b, c, d, p⟩) := ⟨_, _, _, _, _, Lib.hid rfl⟩

set_option maxRecDepth 100000 in
set_option maxHeartbeats 1000000 in
theorem equal_any (a a' : Option Addr) (n m c c' : Nat) (X Y : List Kn.Cr) (w : World) (hx : CrsAt w a X) (hy : CrsAt w a' Y) (hn : n = X.length) (hm : m = Y.length) (l1 : n ≤ 1000) (l2 : m ≤ 1000) :
    Calls Tryz.prog 35 #[.slice a n c, .slice a' m c'] w fun e w' => e = .returned (.bool (decide (X = Y))) ∧ New w w' := by
  have HX := Lib.hid hx; have HY := Lib.hid hy; have HN := Lib.hid hn; have HM := Lib.hid hm; clear hx hy hn hm; have q1 := Tryz.eq42a
  by_cases h : n = m
  · subst h
    go_enter Tryz.func35, Tryz.ntmps35
    go_wp2
    go_loopw [13] (fun i wr => ∃ k : Nat, k ≤ n ∧ i = .int .i64 k ∧ Hid (New w wr) ∧ Hid (∀ j, j < k → Kn.cr X j = Kn.cr Y j)) (fun i _ => n - (intOf i).toNat)
    case atStart => exact ⟨0, by omega, rfl, Lib.hid (Fr.refl _ _), Lib.hid fun j hj => by omega⟩
    case round =>
      obtain ⟨k, hk, rfl, HF, HE⟩ := hrel
      by_cases hlt : k < n
      · obtain ⟨b, o, rfl, d1⟩ := (New.crs HF.out HX.out).at (k := k) (by have := HN.out; omega)
        obtain ⟨b', o', rfl, d2⟩ := (New.crs HF.out HY.out).at (k := k) (by have := HM.out; omega); obtain ⟨x1, x2, x3, x4, x5, H1⟩ := cr_parts X k; obtain ⟨y1, y2, y3, y4, y5, H2⟩ := cr_parts Y k; rw [H1.out] at d1; rw [H2.out] at d2; obtain ⟨a1, a2, a3, a4, a5⟩ := d1; obtain ⟨b1, b2, b3, b4, b5⟩ := d2
        have i1 : (0 : Int) ≤ (k : Int) := by omega
        have i2 : (k : Int) < (n : Int) := by omega
        obtain ⟨r, hr⟩ : ∃ r, r = !decide ((⟨x1, x2, x3, x4, x5⟩ : Kn.Cr) = ⟨y1, y2, y3, y4, y5⟩) := ⟨_, rfl⟩
        have hn := fun w => ne42v w x1 x2 x3 x4 x5 y1 y2 y3 y4 y5 r hr
        have HR := Lib.hid hr; clear hr
        cases r
        · go_wp2
          go_quiet (fail)
          go_wp2
          go_roundw
          case rel => exact ⟨k + 1, by omega, by go_num, Lib.hid (HF.out.drewN _), Lib.hid fun j hj => by
            by_cases c : j = k
            · subst c
              have := HR.out; rw [eq_comm, Bool.not_eq_false', decide_eq_true_eq] at this; rw [H1.out, H2.out, this]
            · exact HE.out j (by omega)⟩
          case measure => simp [intOf]; omega
        · go_wp2
          go_quiet (fail)
          go_wp2; go_ret
          exact ⟨ret_bool (by
            have := HR.out; rw [eq_comm, Bool.not_eq_true', decide_eq_false_iff_not] at this; rw [eq_comm, decide_eq_false_iff_not]
            exact cr_ne (k := k) (by rw [H1.out, H2.out]; exact this)), HF.out.drewN _⟩
      · obtain rfl : k = n := by omega
        go_wp2; go_ret
        exact ⟨ret_bool (by rw [eq_comm, decide_eq_true_iff]; exact cr_ext (by rw [← HN.out, ← HM.out]) fun j hj => HE.out j (by rw [HN.out]; exact hj)), HF.out⟩
  · have h' : ¬ (n : Int) = (m : Int) := by omega
    go_enter Tryz.func35, Tryz.ntmps35
    go_wp2; go_ret
    exact ⟨ret_bool (by rw [eq_comm, decide_eq_false_iff_not]; intro z; apply h; rw [HN.out, HM.out, z]), Fr.refl _ _⟩
end Go.Proofs.YtgjmjbgicfkojaaGreat
