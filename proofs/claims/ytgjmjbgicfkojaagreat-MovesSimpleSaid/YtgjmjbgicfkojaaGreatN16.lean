/- Walks: simpler: words. -/
import Derived.Test.YtgjmjbgicfkojaaGreatN14
/- Walks: simpler: words. -/
namespace Go.Proofs.YtgjmjbgicfkojaaGreat
open Go.RowKit

/- moves that take crossings out -/
inductive Mv where
  | un (c : Nat)
  | pu (a c : Nat)
def Mv.val : Mv → Value
  | .un c => mvV 2 c 0 0 0 false false false
  | .pu a c => mvV 4 a c 0 0 false false false
def doM (X : List Kn.Cr) (L : Int) : Mv → Out
  | .un c => doO X L (unO X L c)
  | .pu a c => doO X L (pullO X L a c)
def Out.isNo : Out → Prop
  | .no _ => True
  | .ok _ _ => False
theorem doM_no {X : List Kn.Cr} {L : Int} {m : Mv} {x : Int} (h : doM X L m = .no x) : x ≠ 0 := by
  have key : ∀ {gone : Nat → Bool} {x : Int}, takeO X L gone = .no x → x ≠ 0 := fun {gone x} h => by
    unfold takeO at h
    split at h
    · cases h
    · cases h; decide
  have k2 : ∀ {o : Out} {x : Int}, doO X L o = .no x → (o = .no x ∨ x = 7) := fun {o x} h => by
    unfold doO at h
    split at h
    · exact .inl h
    · cases h; exact .inr rfl
  cases m with
  | un c =>
    rcases k2 (show doO X L (unO X L c) = .no x from h) with h | h
    · unfold unO at h
      split at h
      · split at h
        · exact key h
        · cases h; decide
      · cases h; decide
    · rw [h]; decide
  | pu a c =>
    rcases k2 (show doO X L (pullO X L a c) = .no x from h) with h | h
    · unfold pullO at h
      split at h
      · split at h
        · exact key h
        · cases h; decide
      · cases h; decide
    · rw [h]; decide
theorem do_mv (m : Mv) (a : Option Addr) (n c : Nat) (X : List Kn.Cr) (L : Int) (w : World) (hx : CrsAt w a X) (hn : n = X.length) (lx : n ≤ 9223372036854775807) (l1 : -9223372036854775808 ≤ L) (l2 : L ≤ 9223372036854775807) :
    Calls Tryz.prog 6 #[.agg #[.slice a n c, .int .i64 L], m.val] w (GaveDo (doM X L m) w) := by
  cases m with
  | un d => exact do_un a n c X L d 0 0 0 false false false w hx hn lx l1 l2
  | pu d e => exact do_pull a n c X L d e 0 0 false false false w hx hn lx l1 l2
/- two and eight cells stored -/
abbrev set2 (w : World) (B : Nat) (a b : Value) : World := (w.setCell ⟨B, 0, none⟩ a).setCell ⟨B, 1, none⟩ b
abbrev set8 (w : World) (B : Nat) (a b c d e f g h : Value) : World := (((((((w.setCell ⟨B, 0, none⟩ a).setCell ⟨B, 1, none⟩ b).setCell ⟨B, 2, none⟩ c).setCell ⟨B, 3, none⟩ d).setCell ⟨B, 4, none⟩ e).setCell ⟨B, 5, none⟩ f).setCell ⟨B, 6, none⟩ g).setCell ⟨B, 7, none⟩ h
theorem set2_blk {w : World} {B t : Nat} {p q : Value} (hb : w.heap[B]? = some (.cells #[p, q] t (0, 0))) (a b : Value) : (set2 w B a b).heap[B]? = some (.cells #[a, b] t (0, 0)) := (box2_set (box2_set hb a).1 b).2
theorem set2_fr (w : World) (B : Nat) (a b : Value) : Fr (fun k => k = B) w (set2 w B a b) := by refine Fr.setCell (Fr.setCell (Fr.refl _ w) ?_ _) ?_ _ <;> exact .inl rfl
theorem set8_blk {w : World} {B t : Nat} {a' b' c' d' e' f' g' h' : Value} (hb : w.heap[B]? = some (.cells #[a', b', c', d', e', f', g', h'] t (0, 0))) (a b c d e f g h : Value) : (set8 w B a b c d e f g h).heap[B]? = some (.cells #[a, b, c, d, e, f, g, h] t (0, 0)) := by
  unfold set8 World.setCell; simp [Array.getElem?_modify, hb]
theorem set8_fr (w : World) (B : Nat) (a b c d e f g h : Value) : Fr (fun k => k = B) w (set8 w B a b c d e f g h) := by
  refine Fr.setCell (Fr.setCell (Fr.setCell (Fr.setCell (Fr.setCell (Fr.setCell (Fr.setCell (Fr.setCell (Fr.refl _ w) ?_ _) ?_ _) ?_ _) ?_ _) ?_ _) ?_ _) ?_ _) ?_ _ <;> exact .inl rfl
theorem eight_f {W : World} {B t : Nat} {a b c d e f g h : Value} (hb : W.heap[B]? = some (.cells #[a, b, c, d, e, f, g, h] t (0, 0))) :
    W.frozen? ⟨B, 0, none⟩ = false ∧ W.frozen? ⟨B, 1, none⟩ = false ∧ W.frozen? ⟨B, 2, none⟩ = false ∧ W.frozen? ⟨B, 3, none⟩ = false ∧ W.frozen? ⟨B, 4, none⟩ = false ∧ W.frozen? ⟨B, 5, none⟩ = false ∧ W.frozen? ⟨B, 6, none⟩ = false ∧ W.frozen? ⟨B, 7, none⟩ = false := by
  refine ⟨?_, ?_, ?_, ?_, ?_, ?_, ?_, ?_⟩ <;> simp [World.frozen?, hb]
abbrev mv0 (B : Nat) (w : World) : Prop := w.heap[B]? = some (.cells #[.int .i64 0, .int .i64 0, .int .i64 0, .int .i64 0, .bool false, .int .i64 0, .bool false, .bool false] 28 (0, 0))
theorem CrsAt.off2 {S : Nat → Prop} {w w' : World} {a : Option Addr} {Y : List Kn.Cr} (h : CrsAt w a Y) (hne : ∀ ad, a = some ad → ¬ S ad.block) (hF : Fr S w w') : CrsAt w' a Y := by
  rcases h with h0 | ⟨g, o, h1, h2⟩
  · exact .inl h0
  · exact .inr ⟨g, o, h1, fun i hi => hF.crAt (h2 i hi) (hne _ h1)⟩
/- the boxes of simpler -/
structure SI (w wr : World) (B1 B2 B3 : Nat) (a : Option Addr) (n c : Nat) (L : Int) : Prop where
  new : New w wr
  d : wr.heap[B1]? = some (.cells #[.slice a n c, .int .i64 L] 24 (0, 0))
  r : wr.heap[B2]? = some (.cells #[.slice none 0 0, .int .i64 0] 24 (0, 0))
  m : mv0 B3 wr
theorem SI.nw {w wr w' : World} {B1 B2 B3 : Nat} {a : Option Addr} {n c : Nat} {L : Int} (h : SI w wr B1 B2 B3 a n c L) (hf : New wr w') : SI w w' B1 B2 B3 a n c L :=
  ⟨h.new.trans hf, hf.blk h.d fun x => x, hf.blk h.r fun x => x, hf.blk h.m fun x => x⟩
def GaveSm (X : List Kn.Cr) (L : Int) (w : World) (e : Ending) (w' : World) : Prop :=
  New w w' ∧ ((∃ m Y N a c, doM X L m = .ok Y N ∧ e = .returned (.tuple #[.agg #[.slice a Y.length c, .int .i64 N], m.val, .bool true]) ∧ CrsAt w' a Y ∧ ∀ ad, a = some ad → w.heap.size ≤ ad.block) ∨
    ((∀ i, i < X.length → (doM X L (.un i)).isNo) ∧ (∀ i j, i < j → j < X.length → (doM X L (.pu i j)).isNo) ∧ e = .returned (.tuple #[.agg #[.slice none 0 0, .int .i64 0], mvV 0 0 0 0 0 false false false, .bool false])))
end Go.Proofs.YtgjmjbgicfkojaaGreat

/- Walks: simpler. -/
namespace Go.Proofs.YtgjmjbgicfkojaaGreat
open Go.RowKit

set_option maxRecDepth 100000 in
set_option maxHeartbeats 8000000 in
theorem simpler_any (a : Option Addr) (n c : Nat) (X : List Kn.Cr) (L : Int) (w : World) (hx : CrsAt w a X) (hn : n = X.length) (hl : n ≤ 16) (l1 : -9223372036854775808 ≤ L) (l2 : L ≤ 9223372036854775807) :
    Calls Tryz.prog 23 #[.agg #[.slice a n c, .int .i64 L]] w (GaveSm X L w) := by
  have HX := Lib.hid hx
  have HN := Lib.hid hn
  clear hx hn
  obtain ⟨w1, HW1⟩ : ∃ w1, Hid (w1 = ((w.alloc (.cells #[.slice a n c, .int .i64 L] 24)).alloc (.cells #[.slice none 0 0, .int .i64 0] 24)).alloc (.cells #[.int .i64 0, .int .i64 0, .int .i64 0, .int .i64 0, .bool false, .int .i64 0, .bool false, .bool false] 28)) := ⟨_, Lib.hid rfl⟩
  obtain ⟨B1, HB1⟩ : ∃ B, Hid (B = w.heap.size) := ⟨_, Lib.hid rfl⟩
  obtain ⟨B2, HB2⟩ : ∃ B, Hid (B = w.heap.size + 1) := ⟨_, Lib.hid rfl⟩
  obtain ⟨B3, HB3⟩ : ∃ B, Hid (B = w.heap.size + 1 + 1) := ⟨_, Lib.hid rfl⟩
  have HI1 : Hid (SI w w1 B1 B2 B3 a n c L) := Lib.hid (by
    have h1 := heap_alloc_new w (.cells #[.slice a n c, .int .i64 L] 24)
    have h2 := heap_alloc_new (w.alloc (.cells #[.slice a n c, .int .i64 L] 24)) (.cells #[.slice none 0 0, .int .i64 0] 24)
    have h3 := heap_alloc_new ((w.alloc (.cells #[.slice a n c, .int .i64 L] 24)).alloc (.cells #[.slice none 0 0, .int .i64 0] 24)) (.cells #[.int .i64 0, .int .i64 0, .int .i64 0, .int .i64 0, .bool false, .int .i64 0, .bool false, .bool false] 28)
    rw [World.size_alloc] at h2
    rw [World.size_alloc, World.size_alloc] at h3
    rw [HW1.out, HB1.out, HB2.out, HB3.out]
    exact ⟨(((Fr.refl _ w).alloc _).alloc _).alloc _, (((Fr.refl (fun _ => False) _).alloc _).alloc _).blk h1 fun x => x, ((Fr.refl (fun _ => False) _).alloc _).blk h2 fun x => x, h3⟩)
  have hB32 : ¬ B3 = B2 := by have := HB2.out; have := HB3.out; omega
  have hB2w : w.heap.size ≤ B2 := by have := HB2.out; omega
  have hB3w : w.heap.size ≤ B3 := by have := HB3.out; omega
  obtain ⟨d0, _⟩ := box2_c HI1.out.d
  go_enter Tryz.func23, Tryz.ntmps23
  go_wp2_with fail
  rw [← HW1.out, ← HB3.out, ← HB2.out, ← HB1.out]
  clear d0
  go_loopw [17] (fun i wr => ∃ k : Nat, k ≤ n ∧ i = .int .i64 k ∧ Hid (SI w wr B1 B2 B3 a n c L) ∧ Hid (∀ i, i < k → (doM X L (.un i)).isNo)) (fun i _ => n - (intOf i).toNat)
  case atStart => exact ⟨0, by omega, rfl, HI1, Lib.hid fun i hi => by omega⟩
  case round =>
    obtain ⟨k, hk, rfl, HI, HS⟩ := hrel
    by_cases hkn : k < n
    · have i1 : (0 : Int) ≤ (k : Int) := by omega
      have i2 : (k : Int) < (n : Int) := by omega
      have d0 := (box2_c HI.out.d).1
      have HIa := Lib.hid (HI.out.nw ((Fr.refl _ wr).alloc (.cells #[.int .i64 2, .int .i64 (k : Nat), .int .i64 0, .int .i64 0, .bool false, .int .i64 0, .bool false, .bool false] 28)))
      have d1 := (box2_c HIa.out.d).1
      have d2 := (box2_c HIa.out.d).2.1
      have hma := heap_alloc_new wr (.cells #[.int .i64 2, .int .i64 (k : Nat), .int .i64 0, .int .i64 0, .bool false, .int .i64 0, .bool false, .bool false] 28)
      have HMA := Lib.hid hma
      obtain ⟨m0, m1, m2, m3, m4, m5, m6, m7⟩ := eight_c hma
      clear hma
      go_wp2_with fail
      clear m0 m1 m2 m3 m4 m5 m6 m7 d0 d1 d2
      refine (do_mv (.un k) a n c X L _ (New.crs HIa.out.new HX.out) HN.out (by omega) l1 l2).mono ?_
      rintro e w4 ⟨hN, hM⟩
      have HI4 := Lib.hid (HIa.out.nw hN)
      have HMB := Lib.hid (hN.blk HMA.out fun x => x)
      clear hN
      obtain ⟨o, HO⟩ : ∃ o, Hid (doM X L (.un k) = o) := ⟨_, Lib.hid rfl⟩
      rw [HO.out] at hM
      cases o with
      | no x =>
        obtain rfl := hM
        have hx0 : (x == (0 : Int)) = false := by
          have := doM_no HO.out
          simpa using this
        have HI5 := Lib.hid (HI4.out.nw ((Fr.refl _ w4).alloc (.cells #[.slice none 0 0, .int .i64 0] 24)))
        go_wp2
        go_roundw
        case rel => exact ⟨k + 1, by omega, by go_num, HI5, Lib.hid fun i hi => by
          by_cases e : i = k
          · rw [e, HO.out]; trivial
          · exact HS.out i (by omega)⟩
        case measure => simp [intOf]; omega
      | ok Y N =>
        obtain ⟨ya, yc, rfl, hyc, hyf⟩ := hM
        have HYF : Hid (∀ ad, ya = some ad → wr.heap.size < ad.block) := Lib.hid (fun ad e => by have := hyf ad e; rw [World.size_alloc] at this; omega)
        clear hyf
        obtain ⟨ny, HNY⟩ : ∃ ny, Hid (ny = Y.length) := ⟨_, Lib.hid rfl⟩
        rw [← HNY.out]
        obtain ⟨w5, HW5⟩ : ∃ w5, Hid (w5 = w4.alloc (.cells #[.slice ya ny yc, .int .i64 N] 24)) := ⟨_, Lib.hid rfl⟩
        obtain ⟨B5, HB5⟩ : ∃ B, Hid (B = w4.heap.size) := ⟨_, Lib.hid rfl⟩
        obtain ⟨B4, HB4⟩ : ∃ B, Hid (B = wr.heap.size) := ⟨_, Lib.hid rfl⟩
        have HI5 : Hid (SI w w5 B1 B2 B3 a n c L) := Lib.hid (by rw [HW5.out]; exact HI4.out.nw ((Fr.refl _ w4).alloc _))
        have h5 : w5.heap[B5]? = some (.cells #[.slice ya ny yc, .int .i64 N] 24 (0, 0)) := by rw [HW5.out, HB5.out]; exact heap_alloc_new _ _
        have h4 : w5.heap[B4]? = some (.cells #[.int .i64 2, .int .i64 (k : Nat), .int .i64 0, .int .i64 0, .bool false, .int .i64 0, .bool false, .bool false] 28 (0, 0)) := by rw [HW5.out, HB4.out]; exact ((Fr.refl (fun _ => False) w4).alloc _).blk HMB.out fun x => x
        have HYC : Hid (CrsAt w5 ya Y) := Lib.hid (by rw [HW5.out]; exact New.crs ((Fr.refl _ w4).alloc _) hyc)
        rw [← HB4.out] at HMB ⊢
        clear hyc HMB HMA
        go_wp2_with fail
        rw [← HW5.out, ← HB5.out]
        have hR := HI5.out.r
        have hM := HI5.out.m
        have hn5 := HI5.out.new
        obtain ⟨p0, p1, _, _⟩ := box2_c h5
        obtain ⟨m0, m1, m2, m3, m4, m5, m6, m7⟩ := eight_c h4
        obtain ⟨r0, r1, r2, r3⟩ := box2_c hR
        obtain ⟨n0, n1, n2, n3, n4, n5, n6, n7⟩ := eight_c hM
        obtain ⟨f0, f1, f2, f3, f4, f5, f6, f7⟩ := eight_f hM
        have hS2 := set2_fr w5 B2 (.slice ya ny yc) (.int .i64 N)
        have hS8 := set8_fr w5 B3 (.int .i64 2) (.int .i64 (k : Nat)) (.int .i64 0) (.int .i64 0) (.bool false) (.int .i64 0) (.bool false) (.bool false)
        have hM2 := hS2.blk hM hB32
        have hR8 := hS8.blk hR (fun e => hB32 e.symm)
        obtain ⟨n0', n1', n2', n3', n4', n5', n6', n7'⟩ := eight_c hM2
        obtain ⟨f0', f1', f2', f3', f4', f5', f6', f7'⟩ := eight_f hM2
        obtain ⟨r0', r1', r2', r3'⟩ := box2_c hR8
        have hB42 : ¬ B4 = B2 := fun e => by rw [e, hR] at h4; cases h4
        have hB53 : ¬ B5 = B3 := fun e => by rw [e, hM] at h5; cases h5
        obtain ⟨m0', m1', m2', m3', m4', m5', m6', m7'⟩ := eight_c (hS2.blk h4 hB42)
        obtain ⟨p0', p1', _, _⟩ := box2_c (hS8.blk h5 hB53)
        have hY2 := HYC.out
        obtain ⟨wa, HWA⟩ : ∃ wa, Hid (wa = ((((((((((w5.setCell ⟨B2, 0, none⟩ (.slice ya ny yc)).setCell ⟨B2, 1, none⟩ (.int .i64 N)).setCell ⟨B3, 0, none⟩ (.int .i64 2)).setCell ⟨B3, 1, none⟩ (.int .i64 (k : Nat))).setCell ⟨B3, 2, none⟩ (.int .i64 0)).setCell ⟨B3, 3, none⟩ (.int .i64 0)).setCell ⟨B3, 4, none⟩ (.bool false)).setCell ⟨B3, 5, none⟩ (.int .i64 0)).setCell ⟨B3, 6, none⟩ (.bool false)).setCell ⟨B3, 7, none⟩ (.bool false))) := ⟨_, Lib.hid rfl⟩
        obtain ⟨wb, HWB⟩ : ∃ wb, Hid (wb = ((((((((((w5.setCell ⟨B3, 0, none⟩ (.int .i64 2)).setCell ⟨B3, 1, none⟩ (.int .i64 (k : Nat))).setCell ⟨B3, 2, none⟩ (.int .i64 0)).setCell ⟨B3, 3, none⟩ (.int .i64 0)).setCell ⟨B3, 4, none⟩ (.bool false)).setCell ⟨B3, 5, none⟩ (.int .i64 0)).setCell ⟨B3, 6, none⟩ (.bool false)).setCell ⟨B3, 7, none⟩ (.bool false)).setCell ⟨B2, 0, none⟩ (.slice ya ny yc)).setCell ⟨B2, 1, none⟩ (.int .i64 N))) := ⟨_, Lib.hid rfl⟩
        have HFA : Hid (Fr (fun k => k = B2 ∨ k = B3) w5 wa) := Lib.hid (by rw [HWA.out]; exact (hS2.mono fun _ h => .inl h).trans ((set8_fr _ B3 (.int .i64 2) (.int .i64 (k : Nat)) (.int .i64 0) (.int .i64 0) (.bool false) (.int .i64 0) (.bool false) (.bool false)).mono fun _ h => .inr h))
        have HFB : Hid (Fr (fun k => k = B2 ∨ k = B3) w5 wb) := Lib.hid (by rw [HWB.out]; exact (hS8.mono fun _ h => .inr h).trans ((set2_fr _ B2 _ _).mono fun _ h => .inl h))
        have HA2 : Hid (wa.heap[B2]? = some (.cells #[.slice ya ny yc, .int .i64 N] 24 (0, 0))) := Lib.hid (by rw [HWA.out]; exact (set8_fr (set2 w5 B2 (.slice ya ny yc) (.int .i64 N)) B3 (.int .i64 2) (.int .i64 (k : Nat)) (.int .i64 0) (.int .i64 0) (.bool false) (.int .i64 0) (.bool false) (.bool false)).blk (set2_blk hR _ _) (fun e => hB32 e.symm))
        have HA8 : Hid (wa.heap[B3]? = some (.cells #[.int .i64 2, .int .i64 (k : Nat), .int .i64 0, .int .i64 0, .bool false, .int .i64 0, .bool false, .bool false] 28 (0, 0))) := Lib.hid (by rw [HWA.out]; exact set8_blk hM2 (.int .i64 2) (.int .i64 (k : Nat)) (.int .i64 0) (.int .i64 0) (.bool false) (.int .i64 0) (.bool false) (.bool false))
        have HC2 : Hid (wb.heap[B2]? = some (.cells #[.slice ya ny yc, .int .i64 N] 24 (0, 0))) := Lib.hid (by rw [HWB.out]; exact set2_blk hR8 (.slice ya ny yc) (.int .i64 N))
        have HC8 : Hid (wb.heap[B3]? = some (.cells #[.int .i64 2, .int .i64 (k : Nat), .int .i64 0, .int .i64 0, .bool false, .int .i64 0, .bool false, .bool false] 28 (0, 0))) := Lib.hid (by rw [HWB.out]; exact (set2_fr (set8 w5 B3 (.int .i64 2) (.int .i64 (k : Nat)) (.int .i64 0) (.int .i64 0) (.bool false) (.int .i64 0) (.bool false) (.bool false)) B2 (.slice ya ny yc) (.int .i64 N)).blk (set8_blk hM (.int .i64 2) (.int .i64 (k : Nat)) (.int .i64 0) (.int .i64 0) (.bool false) (.int .i64 0) (.bool false) (.bool false)) hB32)
        have HYA : Hid (∀ w', Fr (fun k => k = B2 ∨ k = B3) w5 w' → CrsAt w' ya Y) := Lib.hid (fun w' hf => HYC.out.off2 (fun ad e h => by
          have h1 := HYF.out ad e
          have h2 := HI.out
          have h3 := (Array.getElem?_eq_some_iff.1 h2.r).1
          have h4 := (Array.getElem?_eq_some_iff.1 h2.m).1
          omega) hf)
        clear hR hM h5 h4 hS2 hS8 hM2 hR8 hY2
        go_region
        all_goals (go_wp2_with fail)
        all_goals clear p0 p1 p0' p1' m0 m1 m2 m3 m4 m5 m6 m7 m0' m1' m2' m3' m4' m5' m6' m7' r0 r1 r2 r3 r0' r1' r2' r3' n0 n1 n2 n3 n4 n5 n6 n7 n0' n1' n2' n3' n4' n5' n6' n7' f0 f1 f2 f3 f4 f5 f6 f7 f0' f1' f2' f3' f4' f5' f6' f7'
        all_goals first
          | (rw [← HWA.out]
             obtain ⟨u0, u1, _, _⟩ := box2_c (W := wa.drew) HA2.out
             obtain ⟨v0, v1, v2, v3, v4, v5, v6, v7⟩ := eight_c (W := wa.drew) HA8.out
             refine bodyPost_ret (v := .tuple #[.agg #[.slice ya ny yc, .int .i64 N], .agg #[.int .i64 2, .int .i64 (k : Nat), .int .i64 0, .int .i64 0, .bool false, .int .i64 0, .bool false, .bool false], .bool true]) (by simp [results, Tryz.results23, go_sem, u0, u1, v0, v1, v2, v3, v4, v5, v6, v7]) rfl ⟨HI5.out.new.next HFA.out.drew fun i hi => .inr (by omega), .inl ⟨(.un k), Y, N, ya, yc, HO.out, by rw [HNY.out]; rfl, HYA.out _ HFA.out.drew, fun ad e => Nat.le_trans HI.out.new.size (Nat.le_of_lt (HYF.out ad e))⟩⟩)
          | (rw [← HWB.out]
             obtain ⟨u0, u1, _, _⟩ := box2_c (W := wb.drew) HC2.out
             obtain ⟨v0, v1, v2, v3, v4, v5, v6, v7⟩ := eight_c (W := wb.drew) HC8.out
             refine bodyPost_ret (v := .tuple #[.agg #[.slice ya ny yc, .int .i64 N], .agg #[.int .i64 2, .int .i64 (k : Nat), .int .i64 0, .int .i64 0, .bool false, .int .i64 0, .bool false, .bool false], .bool true]) (by simp [results, Tryz.results23, go_sem, u0, u1, v0, v1, v2, v3, v4, v5, v6, v7]) rfl ⟨HI5.out.new.next HFB.out.drew fun i hi => .inr (by omega), .inl ⟨(.un k), Y, N, ya, yc, HO.out, by rw [HNY.out]; rfl, HYA.out _ HFB.out.drew, fun ad e => Nat.le_trans HI.out.new.size (Nat.le_of_lt (HYF.out ad e))⟩⟩)

    · obtain rfl : n = k := by omega
      have HS1 := HS
      have d0 := (box2_c HI.out.d).1
      go_wp2_with fail
      clear d0
      obtain ⟨w2, rfl⟩ : ∃ w2, w2 = wr := ⟨_, rfl⟩
      have HI2 := HI
      go_loopw [36] (fun i wr => ∃ k : Nat, k ≤ n ∧ i = .int .i64 k ∧ Hid (SI w wr B1 B2 B3 a n c L) ∧ Hid (∀ i j, i < k → i < j → j < n → (doM X L (.pu i j)).isNo)) (fun i _ => n - (intOf i).toNat)
      case atStart => exact ⟨0, by omega, rfl, HI2, Lib.hid fun i j hi => by omega⟩
      case round =>
        obtain ⟨k, hk, rfl, HI, HS⟩ := hrel
        by_cases hkn : k < n
        · have i1 : (0 : Int) ≤ (k : Int) := by omega
          have i2 : (k : Int) < (n : Int) := by omega
          have HI3 := HI
          go_wp2_with fail
          obtain ⟨w3, rfl⟩ : ∃ w3, w3 = wr := ⟨_, rfl⟩
          go_loopw [10] (fun i wr => ∃ q : Nat, k < q ∧ q ≤ n ∧ i = .int .i64 q ∧ Hid (SI w wr B1 B2 B3 a n c L) ∧ Hid (∀ j, k < j → j < q → (doM X L (.pu k j)).isNo)) (fun i _ => n - (intOf i).toNat)
          case atStart => exact ⟨k + 1, by omega, by omega, by go_num, HI3, Lib.hid fun j h1 h2 => by omega⟩
          case round =>
            obtain ⟨q, hq1, hq2, rfl, HI, HQ⟩ := hrel
            by_cases hqn : q < n
            · have j1 : (0 : Int) ≤ (q : Int) := by omega
              have j2 : (q : Int) < (n : Int) := by omega
              have d0 := (box2_c HI.out.d).1
              have HIa := Lib.hid (HI.out.nw ((Fr.refl _ wr).alloc (.cells #[.int .i64 4, .int .i64 (k : Nat), .int .i64 (q : Nat), .int .i64 0, .bool false, .int .i64 0, .bool false, .bool false] 28)))
              have d1 := (box2_c HIa.out.d).1
              have d2 := (box2_c HIa.out.d).2.1
              have hma := heap_alloc_new wr (.cells #[.int .i64 4, .int .i64 (k : Nat), .int .i64 (q : Nat), .int .i64 0, .bool false, .int .i64 0, .bool false, .bool false] 28)
              have HMA := Lib.hid hma
              obtain ⟨m0, m1, m2, m3, m4, m5, m6, m7⟩ := eight_c hma
              clear hma
              go_wp2_with fail
              clear m0 m1 m2 m3 m4 m5 m6 m7 d0 d1 d2
              refine (do_mv (.pu k q) a n c X L _ (New.crs HIa.out.new HX.out) HN.out (by omega) l1 l2).mono ?_
              rintro e w4 ⟨hN, hM⟩
              have HI4 := Lib.hid (HIa.out.nw hN)
              have HMB := Lib.hid (hN.blk HMA.out fun x => x)
              clear hN
              obtain ⟨o, HO⟩ : ∃ o, Hid (doM X L (.pu k q) = o) := ⟨_, Lib.hid rfl⟩
              rw [HO.out] at hM
              cases o with
              | no x =>
                obtain rfl := hM
                have hx0 : (x == (0 : Int)) = false := by
                  have := doM_no HO.out
                  simpa using this
                have HI5 := Lib.hid (HI4.out.nw ((Fr.refl _ w4).alloc (.cells #[.slice none 0 0, .int .i64 0] 24)))
                go_wp2
                go_roundw
                case rel => exact ⟨q + 1, by omega, by omega, by go_num, HI5, Lib.hid fun j h1 h2 => by
                  by_cases e : j = q
                  · rw [e, HO.out]; trivial
                  · exact HQ.out j h1 (by omega)⟩
                case measure => simp [intOf]; omega
              | ok Y N =>
                obtain ⟨ya, yc, rfl, hyc, hyf⟩ := hM
                have HYF : Hid (∀ ad, ya = some ad → wr.heap.size < ad.block) := Lib.hid (fun ad e => by have := hyf ad e; rw [World.size_alloc] at this; omega)
                clear hyf
                obtain ⟨ny, HNY⟩ : ∃ ny, Hid (ny = Y.length) := ⟨_, Lib.hid rfl⟩
                rw [← HNY.out]
                obtain ⟨w5, HW5⟩ : ∃ w5, Hid (w5 = w4.alloc (.cells #[.slice ya ny yc, .int .i64 N] 24)) := ⟨_, Lib.hid rfl⟩
                obtain ⟨B5, HB5⟩ : ∃ B, Hid (B = w4.heap.size) := ⟨_, Lib.hid rfl⟩
                obtain ⟨B4, HB4⟩ : ∃ B, Hid (B = wr.heap.size) := ⟨_, Lib.hid rfl⟩
                have HI5 : Hid (SI w w5 B1 B2 B3 a n c L) := Lib.hid (by rw [HW5.out]; exact HI4.out.nw ((Fr.refl _ w4).alloc _))
                have h5 : w5.heap[B5]? = some (.cells #[.slice ya ny yc, .int .i64 N] 24 (0, 0)) := by rw [HW5.out, HB5.out]; exact heap_alloc_new _ _
                have h4 : w5.heap[B4]? = some (.cells #[.int .i64 4, .int .i64 (k : Nat), .int .i64 (q : Nat), .int .i64 0, .bool false, .int .i64 0, .bool false, .bool false] 28 (0, 0)) := by rw [HW5.out, HB4.out]; exact ((Fr.refl (fun _ => False) w4).alloc _).blk HMB.out fun x => x
                have HYC : Hid (CrsAt w5 ya Y) := Lib.hid (by rw [HW5.out]; exact New.crs ((Fr.refl _ w4).alloc _) hyc)
                rw [← HB4.out] at HMB ⊢
                clear hyc HMB HMA
                go_wp2_with fail
                rw [← HW5.out, ← HB5.out]
                have hR := HI5.out.r
                have hM := HI5.out.m
                have hn5 := HI5.out.new
                obtain ⟨p0, p1, _, _⟩ := box2_c h5
                obtain ⟨m0, m1, m2, m3, m4, m5, m6, m7⟩ := eight_c h4
                obtain ⟨r0, r1, r2, r3⟩ := box2_c hR
                obtain ⟨n0, n1, n2, n3, n4, n5, n6, n7⟩ := eight_c hM
                obtain ⟨f0, f1, f2, f3, f4, f5, f6, f7⟩ := eight_f hM
                have hS2 := set2_fr w5 B2 (.slice ya ny yc) (.int .i64 N)
                have hS8 := set8_fr w5 B3 (.int .i64 4) (.int .i64 (k : Nat)) (.int .i64 (q : Nat)) (.int .i64 0) (.bool false) (.int .i64 0) (.bool false) (.bool false)
                have hM2 := hS2.blk hM hB32
                have hR8 := hS8.blk hR (fun e => hB32 e.symm)
                obtain ⟨n0', n1', n2', n3', n4', n5', n6', n7'⟩ := eight_c hM2
                obtain ⟨f0', f1', f2', f3', f4', f5', f6', f7'⟩ := eight_f hM2
                obtain ⟨r0', r1', r2', r3'⟩ := box2_c hR8
                have hB42 : ¬ B4 = B2 := fun e => by rw [e, hR] at h4; cases h4
                have hB53 : ¬ B5 = B3 := fun e => by rw [e, hM] at h5; cases h5
                obtain ⟨m0', m1', m2', m3', m4', m5', m6', m7'⟩ := eight_c (hS2.blk h4 hB42)
                obtain ⟨p0', p1', _, _⟩ := box2_c (hS8.blk h5 hB53)
                have hY2 := HYC.out
                obtain ⟨wa, HWA⟩ : ∃ wa, Hid (wa = ((((((((((w5.setCell ⟨B2, 0, none⟩ (.slice ya ny yc)).setCell ⟨B2, 1, none⟩ (.int .i64 N)).setCell ⟨B3, 0, none⟩ (.int .i64 4)).setCell ⟨B3, 1, none⟩ (.int .i64 (k : Nat))).setCell ⟨B3, 2, none⟩ (.int .i64 (q : Nat))).setCell ⟨B3, 3, none⟩ (.int .i64 0)).setCell ⟨B3, 4, none⟩ (.bool false)).setCell ⟨B3, 5, none⟩ (.int .i64 0)).setCell ⟨B3, 6, none⟩ (.bool false)).setCell ⟨B3, 7, none⟩ (.bool false))) := ⟨_, Lib.hid rfl⟩
                obtain ⟨wb, HWB⟩ : ∃ wb, Hid (wb = ((((((((((w5.setCell ⟨B3, 0, none⟩ (.int .i64 4)).setCell ⟨B3, 1, none⟩ (.int .i64 (k : Nat))).setCell ⟨B3, 2, none⟩ (.int .i64 (q : Nat))).setCell ⟨B3, 3, none⟩ (.int .i64 0)).setCell ⟨B3, 4, none⟩ (.bool false)).setCell ⟨B3, 5, none⟩ (.int .i64 0)).setCell ⟨B3, 6, none⟩ (.bool false)).setCell ⟨B3, 7, none⟩ (.bool false)).setCell ⟨B2, 0, none⟩ (.slice ya ny yc)).setCell ⟨B2, 1, none⟩ (.int .i64 N))) := ⟨_, Lib.hid rfl⟩
                have HFA : Hid (Fr (fun k => k = B2 ∨ k = B3) w5 wa) := Lib.hid (by rw [HWA.out]; exact (hS2.mono fun _ h => .inl h).trans ((set8_fr _ B3 (.int .i64 4) (.int .i64 (k : Nat)) (.int .i64 (q : Nat)) (.int .i64 0) (.bool false) (.int .i64 0) (.bool false) (.bool false)).mono fun _ h => .inr h))
                have HFB : Hid (Fr (fun k => k = B2 ∨ k = B3) w5 wb) := Lib.hid (by rw [HWB.out]; exact (hS8.mono fun _ h => .inr h).trans ((set2_fr _ B2 _ _).mono fun _ h => .inl h))
                have HA2 : Hid (wa.heap[B2]? = some (.cells #[.slice ya ny yc, .int .i64 N] 24 (0, 0))) := Lib.hid (by rw [HWA.out]; exact (set8_fr (set2 w5 B2 (.slice ya ny yc) (.int .i64 N)) B3 (.int .i64 4) (.int .i64 (k : Nat)) (.int .i64 (q : Nat)) (.int .i64 0) (.bool false) (.int .i64 0) (.bool false) (.bool false)).blk (set2_blk hR _ _) (fun e => hB32 e.symm))
                have HA8 : Hid (wa.heap[B3]? = some (.cells #[.int .i64 4, .int .i64 (k : Nat), .int .i64 (q : Nat), .int .i64 0, .bool false, .int .i64 0, .bool false, .bool false] 28 (0, 0))) := Lib.hid (by rw [HWA.out]; exact set8_blk hM2 (.int .i64 4) (.int .i64 (k : Nat)) (.int .i64 (q : Nat)) (.int .i64 0) (.bool false) (.int .i64 0) (.bool false) (.bool false))
                have HC2 : Hid (wb.heap[B2]? = some (.cells #[.slice ya ny yc, .int .i64 N] 24 (0, 0))) := Lib.hid (by rw [HWB.out]; exact set2_blk hR8 (.slice ya ny yc) (.int .i64 N))
                have HC8 : Hid (wb.heap[B3]? = some (.cells #[.int .i64 4, .int .i64 (k : Nat), .int .i64 (q : Nat), .int .i64 0, .bool false, .int .i64 0, .bool false, .bool false] 28 (0, 0))) := Lib.hid (by rw [HWB.out]; exact (set2_fr (set8 w5 B3 (.int .i64 4) (.int .i64 (k : Nat)) (.int .i64 (q : Nat)) (.int .i64 0) (.bool false) (.int .i64 0) (.bool false) (.bool false)) B2 (.slice ya ny yc) (.int .i64 N)).blk (set8_blk hM (.int .i64 4) (.int .i64 (k : Nat)) (.int .i64 (q : Nat)) (.int .i64 0) (.bool false) (.int .i64 0) (.bool false) (.bool false)) hB32)
                have HYA : Hid (∀ w', Fr (fun k => k = B2 ∨ k = B3) w5 w' → CrsAt w' ya Y) := Lib.hid (fun w' hf => HYC.out.off2 (fun ad e h => by
                  have h1 := HYF.out ad e
                  have h2 := HI.out
                  have h3 := (Array.getElem?_eq_some_iff.1 h2.r).1
                  have h4 := (Array.getElem?_eq_some_iff.1 h2.m).1
                  omega) hf)
                clear hR hM h5 h4 hS2 hS8 hM2 hR8 hY2
                go_region
                all_goals (go_wp2_with fail)
                all_goals clear p0 p1 p0' p1' m0 m1 m2 m3 m4 m5 m6 m7 m0' m1' m2' m3' m4' m5' m6' m7' r0 r1 r2 r3 r0' r1' r2' r3' n0 n1 n2 n3 n4 n5 n6 n7 n0' n1' n2' n3' n4' n5' n6' n7' f0 f1 f2 f3 f4 f5 f6 f7 f0' f1' f2' f3' f4' f5' f6' f7'
                all_goals first
                  | (rw [← HWA.out]
                     obtain ⟨u0, u1, _, _⟩ := box2_c (W := wa.drew) HA2.out
                     obtain ⟨v0, v1, v2, v3, v4, v5, v6, v7⟩ := eight_c (W := wa.drew) HA8.out
                     refine bodyPost_ret (v := .tuple #[.agg #[.slice ya ny yc, .int .i64 N], .agg #[.int .i64 4, .int .i64 (k : Nat), .int .i64 (q : Nat), .int .i64 0, .bool false, .int .i64 0, .bool false, .bool false], .bool true]) (by simp [results, Tryz.results23, go_sem, u0, u1, v0, v1, v2, v3, v4, v5, v6, v7]) rfl ⟨HI5.out.new.next HFA.out.drew fun i hi => .inr (by omega), .inl ⟨(.pu k q), Y, N, ya, yc, HO.out, by rw [HNY.out]; rfl, HYA.out _ HFA.out.drew, fun ad e => Nat.le_trans HI.out.new.size (Nat.le_of_lt (HYF.out ad e))⟩⟩)
                  | (rw [← HWB.out]
                     obtain ⟨u0, u1, _, _⟩ := box2_c (W := wb.drew) HC2.out
                     obtain ⟨v0, v1, v2, v3, v4, v5, v6, v7⟩ := eight_c (W := wb.drew) HC8.out
                     refine bodyPost_ret (v := .tuple #[.agg #[.slice ya ny yc, .int .i64 N], .agg #[.int .i64 4, .int .i64 (k : Nat), .int .i64 (q : Nat), .int .i64 0, .bool false, .int .i64 0, .bool false, .bool false], .bool true]) (by simp [results, Tryz.results23, go_sem, u0, u1, v0, v1, v2, v3, v4, v5, v6, v7]) rfl ⟨HI5.out.new.next HFB.out.drew fun i hi => .inr (by omega), .inl ⟨(.pu k q), Y, N, ya, yc, HO.out, by rw [HNY.out]; rfl, HYA.out _ HFB.out.drew, fun ad e => Nat.le_trans HI.out.new.size (Nat.le_of_lt (HYF.out ad e))⟩⟩)

            · obtain rfl : n = q := by omega
              have d0 := (box2_c HI.out.d).1
              go_wp2
              go_roundw
              case rel => exact ⟨k + 1, by omega, by go_num, HI, Lib.hid fun i j h1 h2 h3 => by
                by_cases e : i = k
                · subst e; exact HQ.out j h2 h3
                · exact HS.out i j (by omega) h2 h3⟩
              case measure => simp [intOf]; omega
        · obtain rfl : n = k := by omega
          have hR := HI.out.r
          have hM := HI.out.m
          obtain ⟨r0, r1, r2, r3⟩ := box2_c hR
          have hS2 := set2_fr wr B2 (.slice none 0 0) (.int .i64 0)
          have hM2 := hS2.blk hM hB32
          obtain ⟨n0, n1, n2, n3, n4, n5, n6, n7⟩ := eight_c hM2
          obtain ⟨f0, f1, f2, f3, f4, f5, f6, f7⟩ := eight_f hM2
          obtain ⟨wa, HWA⟩ : ∃ wa, Hid (wa = ((((((((((wr.setCell ⟨B2, 0, none⟩ (.slice none 0 0)).setCell ⟨B2, 1, none⟩ (.int .i64 0)).setCell ⟨B3, 0, none⟩ (.int .i64 0)).setCell ⟨B3, 1, none⟩ (.int .i64 0)).setCell ⟨B3, 2, none⟩ (.int .i64 0)).setCell ⟨B3, 3, none⟩ (.int .i64 0)).setCell ⟨B3, 4, none⟩ (.bool false)).setCell ⟨B3, 5, none⟩ (.int .i64 0)).setCell ⟨B3, 6, none⟩ (.bool false)).setCell ⟨B3, 7, none⟩ (.bool false))) := ⟨_, Lib.hid rfl⟩
          have HFA : Hid (Fr (fun k => k = B2 ∨ k = B3) wr wa) := Lib.hid (by rw [HWA.out]; exact (hS2.mono fun _ h => .inl h).trans ((set8_fr _ B3 (.int .i64 0) (.int .i64 0) (.int .i64 0) (.int .i64 0) (.bool false) (.int .i64 0) (.bool false) (.bool false)).mono fun _ h => .inr h))
          have HA2 : Hid (wa.heap[B2]? = some (.cells #[.slice none 0 0, .int .i64 0] 24 (0, 0))) := Lib.hid (by rw [HWA.out]; exact (set8_fr (set2 wr B2 (.slice none 0 0) (.int .i64 0)) B3 (.int .i64 0) (.int .i64 0) (.int .i64 0) (.int .i64 0) (.bool false) (.int .i64 0) (.bool false) (.bool false)).blk (set2_blk hR _ _) (fun e => hB32 e.symm))
          have HA8 : Hid (mv0 B3 wa) := Lib.hid (by rw [HWA.out]; exact set8_blk hM2 (.int .i64 0) (.int .i64 0) (.int .i64 0) (.int .i64 0) (.bool false) (.int .i64 0) (.bool false) (.bool false))
          clear hS2 hM2 hR hM
          go_wp2
          rw [← HWA.out]
          obtain ⟨u0, u1, _, _⟩ := box2_c HA2.out
          obtain ⟨v0, v1, v2, v3, v4, v5, v6, v7⟩ := eight_c HA8.out
          refine bodyPost_ret (v := .tuple #[.agg #[.slice none 0 0, .int .i64 0], mvV 0 0 0 0 0 false false false, .bool false]) (by simp [results, Tryz.results23, go_sem, u0, u1, v0, v1, v2, v3, v4, v5, v6, v7]) rfl ⟨HI.out.new.next HFA.out fun i hi => .inr (by omega), .inr ⟨?_, ?_, rfl⟩⟩
          · rw [← HN.out]; exact HS1.out
          · rw [← HN.out]; exact fun i j h1 h2 => HS.out i j (by omega) h1 h2
end Go.Proofs.YtgjmjbgicfkojaaGreat
