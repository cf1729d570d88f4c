/- Walks: Read, at a text of words. -/
import Derived.Test.YtgjmjbgicfkojaaGreatDoorC3
import Derived.Test.YtgjmjbgicfkojaaGreatDoorW12
import Derived.Test.YtgjmjbgicfkojaaGreatDoorW27
namespace Go.Proofs.YtgjmjbgicfkojaaGreatDoor
open Go.RowKit Go.Shelf
attribute [local go_sem] Oper.semAt_some

/- what the words tell -/
def crsOf (l : List Tx.Wd) : List Kn.Cr := l.filterMap (·.1)
def lpsOf (l : List Tx.Wd) : Nat := (l.filter fun o => o.1.isNone).length
theorem crsOf_snoc (l : List Tx.Wd) (o : Tx.Wd) : crsOf (l ++ [o]) = crsOf l ++ o.1.toList := by
  obtain ⟨o, h⟩ := o
  cases o <;> simp [crsOf]
theorem lpsOf_snoc (l : List Tx.Wd) (o : Tx.Wd) : lpsOf (l ++ [o]) = lpsOf l + if o.1.isNone then 1 else 0 := by
  obtain ⟨o, h⟩ := o
  cases o <;> simp [lpsOf]
theorem crsOf_len (l : List Tx.Wd) : (crsOf l).length ≤ l.length := List.length_filterMap_le _ _
theorem lpsOf_len (l : List Tx.Wd) : lpsOf l ≤ l.length := List.length_filter_le _ _
structure RdI (w : World) (b : ByteArray) (pre : List Tx.Wd) (W : World) : Prop where
  new : New w W
  r1 : W.heap[w.heap.size]? = some (.cells #[.slice none 0 0, .int .i64 0] 24 (0, 0))
  r2 : W.heap[w.heap.size + 1]? = some (.cells #[.int .i64 0] 26 (0, 0))
  d : ∃ sc, W.heap[w.heap.size + 2]? = some (.cells #[sc, .int .i64 (lpsOf pre : Nat)] 24 (0, 0)) ∧ W.ownsRow w.heap.size 33 5 sc (crsOf pre).length (crCells (crsOf pre))
  s : W.heap[w.heap.size + 3]? = some (.cells #[.string b] 9 (0, 0))
  f : W.heap[w.heap.size + 4]? = some (.cells #[.func (.func 17) #[] #[]] 52 (0, 0))
theorem RdI.kept {w : World} {b : ByteArray} {pre : List Tx.Wd} {W W' : World} {row : Option Nat} (h : RdI w b pre W) (hg : W.grownBy W' row) (hr : ∀ r, row = some r → w.heap.size + 5 ≤ r ∧ ∃ o : Obj, W.heap[r]? = some o ∧ o.isCells = false) : RdI w b pre W' := by
  have hF := fr_grown hg
  have hcell : ∀ {k : Nat} {o : Obj}, W.heap[k]? = some o → o.isCells = true → ¬ row = some k := fun {k o} ho hc e => by
    obtain ⟨_, o', ho', hc'⟩ := hr k e
    rw [ho] at ho'; cases ho'
    rw [hc] at hc'; cases hc'
  obtain ⟨sc, h1, h2⟩ := h.d
  exact ⟨h.new.next hF fun k e => .inr (by have := (hr k e).1; omega), hF.blk h.r1 (hcell h.r1 rfl), hF.blk h.r2 (hcell h.r2 rfl), ⟨sc, hF.blk h1 (hcell h1 rfl), hF.owns h2 fun k hk => by
    obtain ⟨o, h3, h4⟩ := own_cells h2 k hk
    exact hcell h3 h4⟩, hF.blk h.s (hcell h.s rfl), hF.blk h.f (hcell h.f rfl)⟩
theorem RdI.nw {w : World} {b : ByteArray} {pre : List Tx.Wd} {W W' : World} (h : RdI w b pre W) (hF : New W W') : RdI w b pre W' := by
  obtain ⟨sc, h1, h2⟩ := h.d
  exact ⟨h.new.trans hF, hF.blk h.r1 fun x => x, hF.blk h.r2 fun x => x, ⟨sc, hF.blk h1 fun x => x, hF.owns h2 fun _ _ x => x⟩, hF.blk h.s fun x => x, hF.blk h.f fun x => x⟩
theorem rdI_own (w : World) (b : ByteArray) (B : Nat) (hB : w.heap.size + 5 ≤ B) : OwnFrom B (RdI w b) := fun _ _ _ _ hs hg hr => hs.kept hg fun r e => ⟨Nat.le_trans hB (hr r e).1, (hr r e).2⟩
def GaveDg (X : List Kn.Cr) (L : Nat) (w : World) (e : Ending) (w' : World) : Prop :=
  ∃ sc, e = .returned (.tuple #[.agg #[sc, .int .i64 L], .int .i64 0]) ∧ w'.ownsRow w.heap.size 33 5 sc X.length (crCells X) ∧ New w w'
theorem rd_start (w : World) (b : ByteArray) : RdI w b [] (((((w.alloc (.cells #[.slice none 0 0, .int .i64 0] 24)).alloc (.cells #[.int .i64 0] 26)).alloc (.cells #[.slice none 0 0, .int .i64 0] 24)).alloc (.cells #[.string b] 9)).alloc (.cells #[.func (.func 17) #[] #[]] 52)) := by
  have hk : ∀ (W : World) (o : Obj) {k : Nat} {u : Obj}, W.heap[k]? = some u → (W.alloc o).heap[k]? = some u := fun W o k u hu => (Below.heap_alloc W o k (Array.getElem?_eq_some_iff.1 hu).1).trans hu
  have hz : ∀ (W : World) (o : Obj) {k : Nat}, k = W.heap.size → (W.alloc o).heap[k]? = some o := fun W o k e => by subst e; exact heap_alloc_new W o
  exact ⟨((((((Fr.refl _ w).alloc _).alloc _).alloc _).alloc _).alloc _), hk _ _ (hk _ _ (hk _ _ (hk _ _ (hz _ _ rfl)))), hk _ _ (hk _ _ (hk _ _ (hz _ _ (by simp)))), ⟨.slice none 0 0, hk _ _ (hk _ _ (hz _ _ (by simp))), ⟨rfl, .inl ⟨rfl, rfl⟩⟩⟩, hk _ _ (hz _ _ (by simp)), hz _ _ (by simp)⟩

theorem rd_set {w : World} (w4 : World) (u v : Value) : Fr (fun k => k = w.heap.size) w4 ((w4.setCell ⟨w.heap.size, 0, none⟩ u).setCell ⟨w.heap.size, 1, none⟩ v) :=
  (Fr.setCell (S := fun k => k = w.heap.size) (Fr.refl _ w4) (a := ⟨w.heap.size, 0, none⟩) (.inl rfl) _).setCell (a := ⟨w.heap.size, 1, none⟩) (.inl rfl) _
theorem RdI.app {w w5 w7 : World} {b : ByteArray} {pre : List Tx.Wd} {sc sc' : Value} {x : Kn.Cr} {hx : ∀ y, some x = some y → Tx.InC y} {o : Obj} {q n : Nat} (h : RdI w b pre w5) (hd1 : w5.heap[w.heap.size + 2]? = some (.cells #[sc, .int .i64 (q : Nat)] 24 (0, 0))) (hd2 : w5.ownsRow w.heap.size 33 5 sc n (crCells (crsOf pre))) (hq : q = lpsOf pre) (hn : n = (crsOf pre).length)
    (hown : w7.ownsRow w.heap.size 33 5 sc' (n + 1) (crCells (crsOf pre) ++ [.int .i64 x.a, .int .i64 x.b, .int .i64 x.c, .int .i64 x.d, .bool x.p])) (hg : (w5.alloc o).grownBy w7 sc.ownBlock) :
    w7.heap[w.heap.size + 2]? = some (.cells #[sc, .int .i64 (q : Nat)] 24 (0, 0)) ∧ RdI w b (pre ++ [⟨some x, hx⟩]) (w7.setCell ⟨w.heap.size + 2, 0, none⟩ sc') ∧ KeepsFrom (w.heap.size + 5) w5 (w7.setCell ⟨w.heap.size + 2, 0, none⟩ sc') ∧ KpB (w.heap.size + 1 + 1 + 1) (w.heap.size + 1 + 1 + 1 + 1) w5 (w7.setCell ⟨w.heap.size + 2, 0, none⟩ sc') := by
  have hF : Fr (fun k => sc.ownBlock = some k) w5 w7 := ((Fr.refl _ w5).alloc o).grown hg fun k e => .inl e
  have hb := hF.blk hd1 (blk_not_own hd1 hd2 (by decide))
  have hS : Fr (fun k => k = w.heap.size + 2) w7 (w7.setCell ⟨w.heap.size + 2, 0, none⟩ sc') := Fr.setCell (S := fun k => k = w.heap.size + 2) (Fr.refl _ w7) (a := ⟨w.heap.size + 2, 0, none⟩) (.inl rfl) _
  have hFS : Fr (fun k => sc.ownBlock = some k ∨ k = w.heap.size + 2) w5 (w7.setCell ⟨w.heap.size + 2, 0, none⟩ sc') := (hF.mono fun _ h => .inl h).trans (hS.mono fun _ h => .inr h)
  have n1 : ¬ (sc.ownBlock = some w.heap.size ∨ w.heap.size = w.heap.size + 2) := fun e => e.elim (blk_not_own h.r1 hd2 (by decide)) (fun e => by omega)
  have n2 : ¬ (sc.ownBlock = some (w.heap.size + 1) ∨ w.heap.size + 1 = w.heap.size + 2) := fun e => e.elim (blk_not_own h.r2 hd2 (by decide)) (fun e => by omega)
  have n3 : ¬ (sc.ownBlock = some (w.heap.size + 3) ∨ w.heap.size + 3 = w.heap.size + 2) := fun e => e.elim (blk_not_own h.s hd2 (by decide)) (fun e => by omega)
  have n4 : ¬ (sc.ownBlock = some (w.heap.size + 4) ∨ w.heap.size + 4 = w.heap.size + 2) := fun e => e.elim (blk_not_own h.f hd2 (by decide)) (fun e => by omega)
  refine ⟨hb, ⟨?_, hFS.blk h.r1 n1, hFS.blk h.r2 n2, ⟨sc', ?_, ?_⟩, hFS.blk h.s n3, hFS.blk h.f n4⟩, ?_, kpB_fr hFS n3 n4⟩
  · exact h.new.next hFS fun i hi => .inr (hi.elim (fun e => own_lb hd2 i e) (fun e => by omega))
  · rw [lpsOf_snoc]
    simp only [Option.isNone_some, Bool.false_eq_true, if_false, Nat.add_zero]
    rw [← hq]
    exact (box2_set hb sc').1
  · rw [crsOf_snoc]
    simp only [Option.toList_some]
    rw [crCells_snoc, List.length_append, List.length_singleton, ← hn]
    exact hS.owns hown fun k hk e => blk_not_own hb hown (by decide) (e ▸ hk)
  · exact (KeepsFrom.app hd2 hg).trans ((KeepsOthers.setCell _ _ _).from _)
theorem RdI.loop {w W : World} {b : ByteArray} {pre : List Tx.Wd} {sc : Value} {q : Nat} {ho : ∀ x, none = some x → Tx.InC x} (h : RdI w b pre W) (hd1 : W.heap[w.heap.size + 2]? = some (.cells #[sc, .int .i64 (q : Nat)] 24 (0, 0))) (hd2 : W.ownsRow w.heap.size 33 5 sc (crsOf pre).length (crCells (crsOf pre))) (hq : q = lpsOf pre) :
    RdI w b (pre ++ [⟨none, ho⟩]) (W.setCell ⟨w.heap.size + 2, 1, none⟩ (.int .i64 ((q : Int) + 1))) ∧ KeepsFrom (w.heap.size + 5) W (W.setCell ⟨w.heap.size + 2, 1, none⟩ (.int .i64 ((q : Int) + 1))) ∧ KpB (w.heap.size + 1 + 1 + 1) (w.heap.size + 1 + 1 + 1 + 1) W (W.setCell ⟨w.heap.size + 2, 1, none⟩ (.int .i64 ((q : Int) + 1))) := by
  have hS : Fr (fun k => k = w.heap.size + 2) W (W.setCell ⟨w.heap.size + 2, 1, none⟩ (.int .i64 ((q : Int) + 1))) := Fr.setCell (S := fun k => k = w.heap.size + 2) (Fr.refl _ W) (a := ⟨w.heap.size + 2, 1, none⟩) (.inl rfl) _
  refine ⟨⟨h.new.next hS fun i hi => .inr (by omega), hS.blk h.r1 (by omega), hS.blk h.r2 (by omega), ⟨sc, ?_, ?_⟩, hS.blk h.s (by omega), hS.blk h.f (by omega)⟩, (KeepsOthers.setCell _ _ _).from _, kpB_fr hS (by omega) (by omega)⟩
  · rw [lpsOf_snoc]
    have := (box2_set hd1 (.int .i64 ((q : Int) + 1))).2
    rw [this, hq]
    simp
  · rw [crsOf_snoc]
    simp only [Option.toList_none, List.append_nil]
    exact hS.owns hd2 fun k hk e => blk_not_own hd1 hd2 (by decide) (e ▸ hk)

set_option maxRecDepth 100000 in
set_option maxHeartbeats 4000000 in
theorem read_any (b : ByteArray) (L : List Tx.Wd) (X : List Kn.Cr) (lp : Nat) (w : World) (hb : b.data.toList = Tx.joinW 32 (L.map Tx.wt)) (hL : L ≠ []) (hLl : L.length ≤ 40) (hsz : b.size ≤ 2000) (hX : crsOf L = X) (hlp : lpsOf L = lp) (hm : Kn.mayB X lp = true) (he : Env w) :
    Calls Tryz.prog 7 #[.string b] w (GaveDg X lp w) := by
  have HB := Lib.hid hb
  have HL := Lib.hid hL
  have HX := Lib.hid hX
  have HLP := Lib.hid hlp
  have HM := Lib.hid hm
  have HE := Lib.hid he
  have hs1 : ¬ (2000 : Int) < (b.size : Int) := by omega
  clear hb hL hX hlp hm he
  refine (callsIn_wide (n := 8)).1 ?_
  refine callsIn_of_wp_marks Tryz.func7 rfl trivial ?_ rfl
  simp only [Tryz.ntmps7, List.size_toArray, List.length_cons, List.length_nil, Nat.reduceAdd, Nat.reduceSub, Array.replicate_succ, Array.replicate_zero, List.push_toArray, List.append_toArray, List.nil_append, List.cons_append]
  gi_wp2_with (refine ⟨trivial, ?_⟩; gi_at_call 18; refine (fields_in _ b _).mono ?_; rintro e w' ⟨rfl, rfl⟩)
  have h0 := rd_start w b
  have hW0s : (((((w.alloc (.cells #[.slice none 0 0, .int .i64 0] 24)).alloc (.cells #[.int .i64 0] 26)).alloc (.cells #[.slice none 0 0, .int .i64 0] 24)).alloc (.cells #[.string b] 9)).alloc (.cells #[.func (.func 17) #[] #[]] 52)).heap.size = w.heap.size + 5 := by simp
  obtain ⟨W0, hW0⟩ : ∃ W0, (((((w.alloc (.cells #[.slice none 0 0, .int .i64 0] 24)).alloc (.cells #[.int .i64 0] 26)).alloc (.cells #[.slice none 0 0, .int .i64 0] 24)).alloc (.cells #[.string b] 9)).alloc (.cells #[.func (.func 17) #[] #[]] 52)) = W0 := ⟨_, rfl⟩
  rw [hW0] at h0 hW0s ⊢
  clear hW0
  have hs0 : W0.cell? ⟨w.heap.size + 1 + 1 + 1, 0, none⟩ = some (.string b) := (box_c h0.s).1
  have hf0 : W0.cell? ⟨w.heap.size + 1 + 1 + 1 + 1, 0, none⟩ = some (.func (.func 17) #[] #[]) := (box_c h0.f).1
  refine wpIn_rangeFunc_ownH rfl (by omega) (gf := 29) (lb := #[.pointer (some ⟨w.heap.size + 1 + 1 + 1, 0, none⟩), .pointer (some ⟨w.heap.size + 1 + 1 + 1 + 1, 0, none⟩)]) rfl trivial (enters_of Tryz.func29 (by kernel_rfl) rfl)
    (fields_stops 7 (w.heap.size + 1 + 1 + 1) (w.heap.size + 1 + 1 + 1 + 1) b L W0 (by omega) (by omega) hs0 hf0 HB.out HL.out hsz) kpB_t (fun W l o o' _ h ho _ => kpB_b W l o o' h ho) (Below.refl _ _) (fun _ => rfl)
    (RdI w b) (fun _ _ _ => False) (rdI_own w b _ (by omega)) (fun _ _ _ _ _ hs _ _ => hs) h0
    (fun x a' W => a' = { tmps := #[.string b, undef, .pointer (some ⟨w.heap.size, 0, none⟩), .pointer (some ⟨w.heap.size + 1, 0, none⟩), .func (.func 17) #[] #[], .pointer (some ⟨w.heap.size + 1 + 1, 0, none⟩), .string ⟨(Tx.wt x).toArray⟩, undef, undef, .string b, .int .i64 b.size, .bool false, undef, .string b, .func (.func 17) #[] #[], .func (.func 29) #[] #[.pointer (some ⟨w.heap.size + 1 + 1 + 1, 0, none⟩), .pointer (some ⟨w.heap.size + 1 + 1 + 1 + 1, 0, none⟩)], .string ⟨(Tx.wt x).toArray⟩, undef, undef, undef, undef, undef, undef, undef, undef, undef, undef, undef, undef, undef, undef, undef, undef, undef, undef, undef, undef, undef, undef, undef, undef, undef], defers := [] })
    ?hax ?assign ?body ?done ?stop
  case hax =>
    rintro x a' _ A B row h _ _
    exact h
  case assign =>
    intro l pre x W K hI hK
    gi_wp2
    exact hK _ _ (KeepsFrom.refl _ _) ⟨fun _ x => x, fun _ x => x⟩ hI rfl
  case stop =>
    rintro D c pre W _ _ h _
    exact h.elim
  case done =>
    rintro D ys W hD rfl hI hK
    obtain ⟨sc, hd1, hd2⟩ := hI.d
    rw [HX.out] at hd2
    rw [HLP.out] at hd1
    obtain ⟨n, HNn⟩ : ∃ n, Hid (n = X.length) := ⟨_, Lib.hid rfl⟩
    rw [← HNn.out] at hd2
    obtain ⟨a8, c8, rfl, _⟩ := own_shape2 hd2
    obtain ⟨p0, p1, _, _⟩ := box2_c hd1
    have HI := Lib.hid hI
    have HD1 := Lib.hid hd1
    have HD2 := Lib.hid hd2
    have HK := Lib.hid hK
    have hn16 : n ≤ 16 := by have := (mayB_ok HM.out).2; have := HNn.out; omega
    have hlp : lp ≤ 40 := by have := lpsOf_len ys; have := HLP.out; omega
    have hcx : CrsAt W a8 X := by
      obtain ⟨a9, c9, e9, h9⟩ := CrsAt.of_owns (X := X) (by rw [← HNn.out]; exact hd2)
      cases e9; exact h9
    have HCX := Lib.hid hcx
    clear hI hd1 hd2 hK hcx h0 hs0 hf0
    gi_wp2_with (refine ⟨trivial, ?_⟩; gi_at_call 6; refine (callsIn_wide.2 (may_any a8 n c8 X lp _ HCX.out HNn.out (by omega) (by omega) (by omega))).mono ?_; rintro e w4 ⟨rfl, hN⟩; rw [HM.out]; have HI4 := Lib.hid (HI.out.nw hN); have hd4 := hN.blk HD1.out (fun x => x); obtain ⟨d0, d1, _, _⟩ := box2_c hd4; obtain ⟨e0, e1, z0, z1⟩ := box2_c HI4.out.r1; have hb1 := (box2_set HI4.out.r1 (.slice a8 n c8)).1; obtain ⟨_, e2, _, z2⟩ := box2_c hb1; have hb2 := (box2_set hb1 (.int .i64 (lp : Int))).2; have HS4 := Lib.hid (rd_set (w := w) w4 (.slice a8 n c8) (.int .i64 (lp : Int))); have hr2 := HS4.out.blk HI4.out.r2 (by omega); obtain ⟨f0, f1⟩ := box_c hr2; have HB2 := Lib.hid hb2; have HR2 := Lib.hid hr2; have HD4 := Lib.hid (hN.blk HK.out fun x => x); have HO4 := Lib.hid (hN.owns HD2.out fun _ _ x => x); clear hN hd4 hb1 hb2 hr2)
    obtain ⟨W5, HW5⟩ : ∃ W5, W5 = (((w4.setCell ⟨w.heap.size, 0, none⟩ (.slice a8 n c8)).setCell ⟨w.heap.size, 1, none⟩ (.int .i64 (lp : Int))).setCell ⟨w.heap.size + 1, 0, none⟩ (.int .i64 0)) := ⟨_, rfl⟩
    have hS5 : Fr (fun k => k = w.heap.size + 1) ((w4.setCell ⟨w.heap.size, 0, none⟩ (.slice a8 n c8)).setCell ⟨w.heap.size, 1, none⟩ (.int .i64 (lp : Int))) W5 := by rw [HW5]; exact Fr.setCell (S := fun k => k = w.heap.size + 1) (Fr.refl _ _) (a := ⟨w.heap.size + 1, 0, none⟩) (.inl rfl) _
    have hF5 : Fr (fun k => k = w.heap.size ∨ k = w.heap.size + 1) w4 W5 := (HS4.out.mono fun _ h => .inl h).trans (hS5.mono fun _ h => .inr h)
    have hDk := hF5.blk HD4.out (by omega)
    have g1 := hS5.blk HB2.out (by omega)
    have g2 : W5.heap[w.heap.size + 1]? = some (.cells #[.int .i64 0] 26 (0, 0)) := by rw [HW5]; exact box_set HR2.out
    have hO5 := hF5.owns HO4.out fun k hk e => e.elim (fun e => by have := own_lb HO4.out k hk; exact blk_not_own HI4.out.r1 HO4.out (by decide) (e ▸ hk)) (fun e => blk_not_own HI4.out.r2 HO4.out (by decide) (e ▸ hk))
    have hN5 : New w W5 := HI4.out.new.next hF5 fun i hi => .inr (by omega)
    have hgp := grownBy_putObj' W5 D (.deferred none)
    have hrow : ∀ r, some D = some r → ∃ o : Obj, W5.heap[r]? = some o ∧ o.isCells = false := fun r e => by cases e; exact ⟨_, hDk, rfl⟩
    obtain ⟨m0, m1, _, _⟩ := box2_c g1
    have k0 := cell_kept m0 hgp hrow
    have k1 := cell_kept m1 hgp hrow
    have k2 := cell_kept (box_c g2).1 hgp hrow
    have hO6 : (W5.putObj D (.deferred none)).ownsRow w.heap.size 33 5 (.slice a8 n c8) n (crCells X) := (fr_grown hgp).owns hO5 fun k hk e => by
      obtain ⟨o, h1, h2⟩ := own_cells hO5 k hk
      cases e
      rw [hDk] at h1; cases h1; cases h2
    have hN6 : New w (W5.putObj D (.deferred none)) := hN5.next (fr_grown hgp) fun i hi => .inr (by cases hi; omega)
    have HO6 := Lib.hid hO6
    have HN6 := Lib.hid hN6
    have HDK := Lib.hid hDk
    rw [← HW5]
    clear HW5 hS5 hF5 hDk g1 g2 hO5 hN5 hgp hrow hO6 hN6 m0 m1 e0 e1 z0 z1 e2 z2 f0 f1 d0 d1
    gi_wp2
    refine ⟨by simp, .inl ⟨_, _, rfl, run_takeDeferred HDK.out, ?_⟩⟩
    refine ⟨.tuple #[.agg #[.slice a8 n c8, .int .i64 (lp : Int)], .int .i64 0], ?_, ?_⟩
    · simp [results, Tryz.results7, go_sem, k0, k1, k2]
    · exact ⟨_, rfl, by rw [← HNn.out]; exact HO6.out, HN6.out⟩
  case body =>
    rintro l pre ⟨o, ho⟩ a' W hl2 ⟨r, hr⟩ hI rfl hlt
    rw [hW0s]
    obtain ⟨sc, hd1, hd2⟩ := hI.d
    obtain ⟨p0, p1, z0, z1⟩ := box2_c hd1
    have HI := Lib.hid hI
    have HD1 := Lib.hid hd1
    have HD2 := Lib.hid hd2
    obtain ⟨lq, HLQ⟩ : ∃ q, Hid (q = lpsOf pre) := ⟨_, Lib.hid rfl⟩
    rw [← HLQ.out] at p1
    have hlq : lq ≤ 40 := by have := lpsOf_len pre; have := HLQ.out; omega
    clear hI hd1 hd2 hr hl2 h0 hs0 hf0
    cases o with
    | none =>
      have hstr : (⟨(Tx.wt ⟨none, ho⟩).toArray⟩ : ByteArray) = ⟨#[79]⟩ := rfl
      rw [hstr]
      gi_wp2
      obtain ⟨h1, h2, h3⟩ := HI.out.loop (ho := ho) (by rw [HLQ.out]; exact HD1.out) HD2.out HLQ.out
      exact ⟨h2, h3, h1⟩
    | some x =>
      obtain ⟨bx, HBX⟩ : ∃ bx : ByteArray, Hid (bx = ⟨(Tx.wt ⟨some x, ho⟩).toArray⟩) := ⟨_, Lib.hid rfl⟩
      have hbx : bx.data.toList = Tx.crT x := by rw [HBX.out]; simp [Tx.wt]
      have hne := bytes_ne hbx (c := [79]) (by unfold Tx.crT Tx.headT; simp)
      rw [← HBX.out]
      have HCR := Lib.hid fun wz hz => cross_any x (ho x rfl) bx hbx wz hz
      obtain ⟨xa, xb, xc, xd, xp⟩ := x
      obtain ⟨n, HNn⟩ : ∃ n, Hid (n = (crsOf pre).length) := ⟨_, Lib.hid rfl⟩
      have hn40 : n ≤ 40 := by have := crsOf_len pre; have := HNn.out; omega
      have hdn := HD2.out
      rw [← HNn.out] at hdn
      obtain ⟨a8, c8, rfl, _⟩ := own_shape2 hdn
      have HDN := Lib.hid hdn
      obtain ⟨I5, hi5, hz50, hz51, hz52⟩ := info_parts Tryz.info33
      have HDQ : Hid (W.heap[w.heap.size + 2]? = some (.cells #[.slice a8 n c8, .int .i64 (lq : Nat)] 24 (0, 0))) := Lib.hid (by rw [HLQ.out]; exact HD1.out)
      clear hbx hdn p0 p1 z0 z1
      gi_wp2_with (first
        | (refine ⟨trivial, ?_⟩; gi_at_call 19; refine (CallsIn.inRound l (callsIn_wide.2 (HCR.out _ (New.env HI.out.new HE.out)))).mono ?_; rintro e w4 ⟨rfl, hN⟩; have HN4 := Lib.hid hN; have u0 : w4.cell? ⟨w.heap.size + 1 + 1, 0, none⟩ = some (.slice a8 n c8) := (box2_c (hN.blk HDQ.out fun x => x)).1; have t0 := fun o => cell_alloc u0 o; have HRG := Lib.hid (hN.owns HDN.out fun _ _ x => x); clear hN)
        | (gi_at_builtin; refine wpListIn_append_own _ rfl _ _ 22 rfl w.heap.size 33 I5 _ 5 40 Tryz.underlying22 hi5 hz50 hz51 hz52 rfl (by decide) _ n _ rfl (World.ownsRow.alloc (World.ownsRow.alloc HRG.out _) _) ⟨w4.heap.size + 1, 0, none⟩ 1 1 [.int .i64 xa, .int .i64 xb, .int .i64 xc, .int .i64 xd, .bool xp] rfl rfl (five_cells (by simp)) (one_five _ _ _ _ _) (by unfold maxLen; omega) (by omega) (by have := HI.out.new.size; have := HN4.out.size; simp; omega) ?_; intro v' w7 hown hgrow _; obtain ⟨a9, c9, rfl, _⟩ := own_shape2 hown; obtain ⟨hb7, hR7, hK7, hP7⟩ := RdI.app (hx := ho) (HI.out.nw (Fr.alloc HN4.out _)) ((Fr.alloc HN4.out _).blk HDQ.out fun x => x) ((Fr.alloc HN4.out _).owns HDN.out fun _ _ x => x) HLQ.out HNn.out hown hgrow; obtain ⟨y0, y1, y2, y3⟩ := box2_c hb7; have HR7 := Lib.hid hR7; have HK7 := Lib.hid hK7; have HP7 := Lib.hid hP7; clear hown hgrow hb7 hR7 hK7 hP7))
      exact ⟨(((HN4.out.keeps _).trans ((KeepsOthers.alloc _ _).from _)).trans HK7.out), kpB_t (kpB_fr (Fr.alloc HN4.out _) (fun x => x) (fun x => x)) HP7.out, HR7.out⟩
end Go.Proofs.YtgjmjbgicfkojaaGreatDoor
