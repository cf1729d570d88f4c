/- Words for gauss.Build. -/
import Derived.Test.YtgjmjbgicfkojaaW52
import Derived.Test.YtgjmjbgicfkojaaW53
import Derived.Test.YtgjmjbgicfkojaaW27
namespace Go.Proofs.Ytgjmjbgicfkojaa
open Go.RowKit

theorem bool_ne (o : Bool) : ¬ o = !o := by cases o <;> decide
def sel (o : Bool) (x y : Nat) : Nat := if o then y else x
def rowF (X : List Kn.Cr) (o : Bool) (t : Nat) : Nat → Nat := two2 (Kn.rowV X o t)
/- the arcs of the strands below and above, behind t visits -/
structure BlI (w wr : World) (bb ab : Nat) (X : List Kn.Cr) (t : Nat) : Prop where
  new : New w wr
  res : wr.heap[w.heap.size]? = some (.cells #[.slice none 0 0, .int .i64 0] 24 (0, 0))
  lb : ∀ o, w.heap.size ≤ sel o bb ab
  row : ∀ o, wr.rowIs (sel o bb ab) 75 (X.length * 2) (numFn (rowF X o t))
  ne : bb ≠ ab
section
variable {w wr wx : World} {bb ab : Nat} {X : List Kn.Cr} {t : Nat}
theorem sel_ne (h : bb ≠ ab) {o o' : Bool} (ho : ¬ o = o') : ¬ sel o bb ab = sel o' bb ab := by
  unfold sel
  cases o <;> cases o' <;> simp at ho ⊢
  · exact h
  · exact fun e => h e.symm
theorem Fr.row75 {S : Nat → Prop} (hf : Fr S wr wx) {b n : Nat} {f : Nat → Value} (h : wr.rowIs b 75 n f) (hs : ¬ S b) : wx.rowIs b 75 n f := hf.row h hs
theorem BlI.nw (h : BlI w wr bb ab X t) (hf : New wr wx) : BlI w wx bb ab X t := ⟨h.new.trans hf, hf.blk h.res fun x => x, h.lb, fun o => hf.row (h.row o) fun x => x, h.ne⟩
theorem row_two {b ty m : Nat} {g : Nat → Nat} (h : wr.rowIs b ty m (numFn g)) {c : Nat} (hc : c * 2 + 1 < m) :
    wr.cell? ⟨b, c * 2, none⟩ = some (.int .i64 (g (c * 2) : Nat)) ∧ wr.frozen? ⟨b, c * 2, none⟩ = false ∧ (∀ Y, (wr.setCell ⟨b, c * 2, none⟩ Y).cell? ⟨b, c * 2 + 1, none⟩ = some (.int .i64 (g (c * 2 + 1) : Nat))) ∧ (∀ Y, (wr.setCell ⟨b, c * 2, none⟩ Y).frozen? ⟨b, c * 2 + 1, none⟩ = false) := by
  refine ⟨h.cell (by omega), h.frozen _, fun Y => ?_, fun Y => (h.set _ Y).frozen _⟩
  have := (h.set (c * 2) Y).cell (i := c * 2 + 1) (by omega)
  rwa [if_neg (by omega)] at this
theorem BlI.put (hX : Kn.Ok X) (h : BlI w wr bb ab X t) (ht : t < Kn.nArcs X) {c : Nat} {o : Bool} (hv : Kn.vis X t = (c, o)) {f r : Nat} (hf : f = t + 1) (hr : Kn.arcV X c o 1 = r) :
    BlI w ((wr.setCell ⟨sel o bb ab, c * 2, none⟩ (.int .i64 (f : Nat))).setCell ⟨sel o bb ab, c * 2 + 1, none⟩ (.int .i64 (r : Nat))) bb ab X (t + 1) ∧ Fr (fun k => k = sel o bb ab) wr ((wr.setCell ⟨sel o bb ab, c * 2, none⟩ (.int .i64 (f : Nat))).setCell ⟨sel o bb ab, c * 2 + 1, none⟩ (.int .i64 (r : Nat))) := by
  have hF : Fr (fun k => k = sel o bb ab) wr ((wr.setCell ⟨sel o bb ab, c * 2, none⟩ (.int .i64 (f : Nat))).setCell ⟨sel o bb ab, c * 2 + 1, none⟩ (.int .i64 (r : Nat))) :=
    (Fr.setCell (S := fun k => k = sel o bb ab) (Fr.refl _ wr) (a := ⟨sel o bb ab, c * 2, none⟩) (.inl rfl) _).setCell (a := ⟨sel o bb ab, c * 2 + 1, none⟩) (.inl rfl) _
  have hc := Kn.vis_lt hX ht
  have ha := Kn.arcV_first hX ht
  rw [hv] at hc ha
  simp only at hc ha
  refine ⟨⟨h.new.next hF fun i hi => .inr (by rw [hi]; exact h.lb o), hF.blk h.res fun e => blk_ne h.res (h.row o) (by decide) e, h.lb, fun o' => ?_, h.ne⟩, hF⟩
  by_cases ho : o' = o
  · subst ho
    refine rowIs_congr (rowIs_setN' (rowIs_setN' (h.row o') (c * 2) f) (c * 2 + 1) r) fun j hj => ?_
    unfold numFn rowF two2
    rw [Kn.rowV_succ hX ht (by omega), hv]
    simp only []
    by_cases e1 : j = c * 2
    · have d1 : j / 2 = c := by omega
      have d2 : j % 2 = 0 := by omega
      rw [d1, d2, if_pos rfl, if_neg (by omega), if_pos e1, ha, hf]
    · by_cases e2 : j = c * 2 + 1
      · have d1 : j / 2 = c := by omega
        have d2 : j % 2 = 1 := by omega
        rw [d1, d2, if_pos rfl, if_pos e2, hr]
      · rw [if_neg (fun x => by have := congrArg Prod.fst x; simp only at this; omega), if_neg e2, if_neg e1]
  · refine hF.row (rowIs_congr (h.row o') fun j hj => ?_) (sel_ne h.ne ho)
    unfold numFn rowF two2
    rw [Kn.rowV_succ hX ht (by omega), hv, if_neg (fun x => ho (congrArg Prod.snd x).symm)]
end
/- both rows made, in whatever order -/
theorem madeR {w : World} {b m k : Nat} (hb : b = w.heap.size) (hk : m * 2 = k) (f : Nat → Nat) (hf : ∀ j, j < m * 2 → f j = 0) : (w.alloc (.cells (madeCells #[.int .i64 0, .int .i64 0] (m * 2)) 75)).rowIs b 75 k (numFn f) := by
  subst hb hk; exact rowIs_made75 w (m * 2) f hf
def Mid75 (w w2 : World) (X : List Kn.Cr) (n : Nat) (s t : Value) (wx : World) : Prop :=
  ∃ bb ab, s = .slice (some ⟨bb, 0, none⟩) n n ∧ t = .slice (some ⟨ab, 0, none⟩) n n ∧ BlI w wx bb ab X 0 ∧ New w2 wx
theorem mid75 {w w2 : World} {X : List Kn.Cr} {n : Nat} (hn : n = X.length) (hw : New w w2) (hr : w2.heap[w.heap.size]? = some (.cells #[.slice none 0 0, .int .i64 0] 24 (0, 0))) {p q : Nat} (hpq : p = w2.heap.size ∧ q = w2.heap.size + 1 ∨ p = w2.heap.size + 1 ∧ q = w2.heap.size) :
    Mid75 w w2 X n (.slice (some ⟨p, 0, none⟩) n n) (.slice (some ⟨q, 0, none⟩) n n) ((w2.alloc (.cells (madeCells #[.int .i64 0, .int .i64 0] (n * 2)) 75)).alloc (.cells (madeCells #[.int .i64 0, .int .i64 0] (n * 2)) 75)) := by
  have hs := hw.size
  have hz : ∀ o j, j < n * 2 → rowF X o 0 j = 0 := fun o j _ => by unfold rowF two2; exact Kn.rowV_zero _ _ _
  have hF : New w2 ((w2.alloc (.cells (madeCells #[.int .i64 0, .int .i64 0] (n * 2)) 75)).alloc (.cells (madeCells #[.int .i64 0, .int .i64 0] (n * 2)) 75)) := ((Fr.refl _ _).alloc _).alloc _
  have h1 : ∀ o, ((w2.alloc (.cells (madeCells #[.int .i64 0, .int .i64 0] (n * 2)) 75)).alloc (.cells (madeCells #[.int .i64 0, .int .i64 0] (n * 2)) 75)).rowIs w2.heap.size 75 (X.length * 2) (numFn (rowF X o 0)) := fun o => (madeR rfl (by rw [hn]) _ (hz o)).alloc _
  have h2 : ∀ o, ((w2.alloc (.cells (madeCells #[.int .i64 0, .int .i64 0] (n * 2)) 75)).alloc (.cells (madeCells #[.int .i64 0, .int .i64 0] (n * 2)) 75)).rowIs (w2.heap.size + 1) 75 (X.length * 2) (numFn (rowF X o 0)) := fun o => madeR (by simp) (by rw [hn]) _ (hz o)
  refine ⟨p, q, rfl, rfl, ⟨hw.trans hF, hF.blk hr fun x => x, fun o => ?_, fun o => ?_, by omega⟩, hF⟩
  · unfold sel; split <;> omega
  · rcases hpq with ⟨rfl, rfl⟩ | ⟨rfl, rfl⟩ <;> cases o <;> first | exact h1 _ | exact h2 _
theorem Mid75.drew {w w2 wx : World} {X : List Kn.Cr} {n : Nat} {s t : Value} (h : Mid75 w w2 X n s t wx) : Mid75 w w2 X n s t wx.drew := by
  obtain ⟨bb, ab, h1, h2, h3, h4⟩ := h
  exact ⟨bb, ab, h1, h2, h3.nw (Fr.refl _ _).drew, h4.drew⟩

/- the crossings under way -/
structure BlJ (w wr : World) (bb ab D : Nat) (X : List Kn.Cr) (L : Int) (k : Nat) (sc : Value) : Prop where
  i : BlI w wr bb ab X (Kn.nArcs X)
  ld : w.heap.size < D
  box : wr.heap[D]? = some (.cells #[sc, .int .i64 L] 24 (0, 0))
  own : wr.ownsRow w.heap.size 42 5 sc k (crCells ((Kn.builtL X).take k))
section
variable {w wr w' : World} {bb ab D : Nat} {X : List Kn.Cr} {L : Int} {k : Nat} {sc sc' : Value}
theorem BlJ.nw (h : BlJ w wr bb ab D X L k sc) (hf : New wr w') : BlJ w w' bb ab D X L k sc :=
  ⟨h.i.nw hf, h.ld, hf.blk h.box fun x => x, hf.owns h.own fun _ _ x => x⟩
theorem BlI.four (h : BlI w wr bb ab X (Kn.nArcs X)) (hX : Kn.Ok X) {c z0 z1 y0 y1 : Nat} (hc : c < X.length) (h0 : z0 = Kn.arcV X c false 0) (h1 : z1 = Kn.arcV X c false 1) (h2 : y0 = Kn.arcV X c true 0) (h3 : y1 = Kn.arcV X c true 1) :
    wr.cell? ⟨bb, c * 2, none⟩ = some (.int .i64 (z0 : Nat)) ∧ wr.cell? ⟨bb, c * 2 + 1, none⟩ = some (.int .i64 (z1 : Nat)) ∧ wr.cell? ⟨ab, c * 2, none⟩ = some (.int .i64 (y0 : Nat)) ∧ wr.cell? ⟨ab, c * 2 + 1, none⟩ = some (.int .i64 (y1 : Nat)) := by
  subst h0 h1 h2 h3
  have key : ∀ o j, j < 2 → wr.cell? ⟨sel o bb ab, c * 2 + j, none⟩ = some (.int .i64 (Kn.arcV X c o j : Nat)) := fun o j hj => by
    have := (h.row o).cell (i := c * 2 + j) (by omega)
    unfold numFn rowF at this
    rw [two2_at _ hj, Kn.rowV_all hX hc] at this
    exact this
  exact ⟨key false 0 (by omega), key false 1 (by omega), key true 0 (by omega), key true 1 (by omega)⟩
theorem plusL_at {k : Nat} (hk : k < (plusL X).length) : (plusL X)[k] = .bool (Kn.cr X k).p := by
  rw [plusL_len] at hk
  simp [plusL, Kn.cr, List.getD_eq_getElem?_getD, hk]
theorem make_lit (b0 b1 a0 a1 : Int) (p : Bool) {va vb vc vd : Int} {vp : Bool} (h : Kn.mkCr b0 b1 a0 a1 p = ⟨va, vb, vc, vd, vp⟩) (w : World) :
    Calls Try.prog 30 #[.agg #[.int .i64 b0, .int .i64 b1], .agg #[.int .i64 a0, .int .i64 a1], .bool p] w (fun e w' => e = .returned (.agg #[.int .i64 va, .int .i64 vb, .int .i64 vc, .int .i64 vd, .bool vp]) ∧ New w w') := by
  refine (make_any b0 b1 a0 a1 p w).mono ?_
  rintro e w' ⟨rfl, hF⟩
  rw [h]
  exact ⟨rfl, hF⟩
theorem BlJ.app {m : Nat} {o : Obj} {vs : List Value} (h : BlJ w wr bb ab D X L k sc) (hown : w'.ownsRow w.heap.size 42 5 sc' m vs) (hg : (wr.alloc o).grownBy w' sc.ownBlock) : BlI w w' bb ab X (Kn.nArcs X) ∧ w'.heap[D]? = some (.cells #[sc, .int .i64 L] 24 (0, 0)) := by
  have hF : Fr (fun k => sc.ownBlock = some k) wr w' := ((Fr.refl _ wr).alloc o).grown hg fun k e => .inl e
  refine ⟨⟨h.i.new.next hF fun i hi => .inr (own_lb h.own i hi), hF.blk h.i.res (blk_not_own h.i.res h.own (by decide)), h.i.lb, fun o => hF.row (h.i.row o) fun e => own_ne h.own (h.i.row o) (by decide) _ e rfl, h.i.ne⟩, hF.blk h.box (blk_not_own h.box h.own (by decide))⟩
theorem builtL_take {k : Nat} (hk : k < X.length) : (Kn.builtL X).take (k + 1) = (Kn.builtL X).take k ++ [(Kn.cr X k).ren (Kn.along X)] := by
  have hk' : k < (Kn.builtL X).length := by rw [Kn.builtL_len]; exact hk
  rw [List.take_succ_eq_append_getElem hk']
  congr 2
  have := Kn.builtL_cr hk
  unfold Kn.cr at this
  rw [List.getD_eq_getElem?_getD, List.getElem?_eq_getElem hk', Option.getD_some] at this
  exact this
theorem BlJ.end_ {o : Obj} {v1 v2 v3 v4 : Int} {p : Bool} (h : BlJ w wr bb ab D X L k sc) (hk : k < X.length) (hx : Kn.mkCr (Kn.arcV X k false 0 : Nat) (Kn.arcV X k false 1 : Nat) (Kn.arcV X k true 0 : Nat) (Kn.arcV X k true 1 : Nat) (Kn.cr X k).p = ⟨v1, v2, v3, v4, p⟩)
    (hown : w'.ownsRow w.heap.size 42 5 sc' (k + 1) (crCells ((Kn.builtL X).take k) ++ [.int .i64 v1, .int .i64 v2, .int .i64 v3, .int .i64 v4, .bool p])) (hg : (wr.alloc o).grownBy w' sc.ownBlock) : BlJ w (w'.setCell ⟨D, 0, none⟩ sc') bb ab D X L (k + 1) sc' := by
  obtain ⟨hi, hb⟩ := h.app hown hg
  have hS : Fr (fun k => k = D) w' (w'.setCell ⟨D, 0, none⟩ sc') := (Fr.refl (fun k => k = D) w').setCell (a := ⟨D, 0, none⟩) (.inl rfl) _
  rw [Kn.mkCr_ren] at hx
  have hlt := h.ld
  refine ⟨⟨hi.new.next hS fun i hi => .inr (by omega), hS.blk hi.res (by omega), hi.lb, fun o => hS.row (hi.row o) fun e => blk_ne hb (hi.row o) (by decide) e.symm, hi.ne⟩, h.ld, (box2_set hb sc').1, ?_⟩
  rw [builtL_take hk, hx, crCells_snoc]
  exact hS.owns hown fun j hj e => blk_not_own hb hown (by decide) (e ▸ hj)
end
end Go.Proofs.Ytgjmjbgicfkojaa
