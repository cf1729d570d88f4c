/- Words for Form. -/
import Derived.Test.YtgjmjbgicfkojaaGreatW23
namespace Go.Proofs.YtgjmjbgicfkojaaGreat
open Go.RowKit

theorem Tryz.info94 : (Tryz.prog.info? 94).map (fun i => (i.zero, i.size, i.bytes)) = some (some (.agg #[.slice none 0 0, .slice none 0 0]), 2, 48) := by kernel_rfl
theorem see_small {X : List Kn.Cr} (hX : Kn.Ok X) (hl : X.length ≤ 16) {c : Nat} (hc : c < X.length) : (Kn.see X c).1.length ≤ 1000 ∧ (Kn.see X c).2.length ≤ 1000 := by
  have h := hX.see_vw hc
  have h1 : (Kn.see X c).1.length ≤ X.length := h.piece.le
  have h2 := h.len
  omega
theorem VwAt.new {w w' : World} {t : TV} (h : VwAt w t) (hf : New w w') : VwAt w' t := ⟨hf.owns h.1 fun _ _ x => x, hf.owns h.2.1 fun _ _ x => x, h.2.2⟩
theorem VwAt.sl {w : World} {t : TV} (h : VwAt w t) : ∃ a c a' c', t.1 = (.slice a t.2.1.length c, .slice a' t.2.2.length c') := by
  obtain ⟨a, c, e, _⟩ := own_shape2 h.1
  obtain ⟨a', c', e', _⟩ := own_shape2 h.2.1
  exact ⟨a, c, a', c', by rw [← e, ← e']⟩
/- what one row's change leaves of a view -/
theorem VwAt.app {w w' : World} {o : Obj} {base e sz n : Nat} {v : Value} {xs : List Value} {t : TV} (h : VwAt w t) (h' : w.ownsRow base e sz v n xs) (hne : (3 : Nat) ≠ e) (hg : (w.alloc o).grownBy w' v.ownBlock) : VwAt w' t :=
  ⟨own_app h.1 h' hne hg, own_app h.2.1 h' hne hg, h.2.2⟩
theorem Rows.app {w w' : World} {o : Obj} {base e sz n : Nat} {v pv : Value} {xs : List Value} {ll : List (List Nat)} (h : Rows OwnN 0 52 w pv ll) (h' : w.ownsRow base e sz v n xs) (h3 : (3 : Nat) ≠ e) (h35 : (52 : Nat) ≠ e) (hg : (w.alloc o).grownBy w' v.ownBlock) : Rows OwnN 0 52 w' pv ll := by
  obtain ⟨vs, h1, h2⟩ := h
  exact ⟨vs, own_app h1 h' h35 hg, h2.mono fun u l hn => own_app (show w.ownsRow 0 3 1 u l.length (nums l) from hn) h' h3 hg⟩
structure FA (w wr : World) (X : List Kn.Cr) (q : Nat) (pv v : Value) (ts : List TV) : Prop where
  new : New w wr
  rows : Rows OwnN 0 52 wr pv (Kn.piecesL X)
  own : wr.ownsRow w.heap.size 94 2 v ts.length (ts.flatMap vcell)
  at_ : ∀ t ∈ ts, VwAt wr t
  eq : ts.map (·.2) = ((Kn.piecesL X).take q).map (Kn.best X)
theorem FA.nw {w wr w' : World} {X : List Kn.Cr} {q : Nat} {pv v : Value} {ts : List TV} (h : FA w wr X q pv v ts) (hf : New wr w') : FA w w' X q pv v ts :=
  ⟨h.new.trans hf, RowsN.new h.rows hf, hf.owns h.own fun _ _ x => x, fun t ht => (h.at_ t ht).new hf, h.eq⟩
theorem FA.len {w wr : World} {X : List Kn.Cr} {q : Nat} {pv v : Value} {ts : List TV} (h : FA w wr X q pv v ts) (hq : q ≤ (Kn.piecesL X).length) : ts.length = q := by
  have := congrArg List.length h.eq
  simp only [List.length_map, List.length_take] at this
  omega
theorem FA.push {w w5 w7 : World} {X : List Kn.Cr} {q m : Nat} {pv v v' : Value} {ts : List TV} {o : Obj} (h : FA w w5 X q pv v ts) {t : TV} (ht : VwAt w5 t) (hq : q < (Kn.piecesL X).length) (he : t.2 = Kn.best X ((Kn.piecesL X)[q])) (hm : m = ts.length)
    (hown : w7.ownsRow w.heap.size 94 2 v' (m + 1) (ts.flatMap vcell ++ vcell t)) (hg : (w5.alloc o).grownBy w7 v.ownBlock) : FA w w7 X (q + 1) pv v' (ts ++ [t]) := by
  have F : Fr (fun k => v.ownBlock = some k) w5 w7 := ((Fr.refl _ w5).alloc o).grown hg fun k e => .inl e
  refine ⟨h.new.next F fun i hi => .inr (own_lb h.own i hi), h.rows.app h.own (by decide) (by decide) hg, ?_, fun u hu => ?_, ?_⟩
  · rw [List.length_append, List.flatMap_append, ← hm]
    simpa using hown
  · rw [List.mem_append, List.mem_singleton] at hu
    rcases hu with hu | rfl
    · exact (h.at_ u hu).app h.own (by decide) hg
    · exact ht.app h.own (by decide) hg
  · rw [List.map_append, h.eq, List.take_succ_eq_append_getElem hq, List.map_append]
    simp [he]
/- the best view of a piece, so far -/
def bestK (X : List Kn.Cr) (l : List Nat) (j : Nat) : Kn.Vw := (l.tail.take j).foldl (fun b c => if Kn.cmpL (Kn.see X c).2 b.2 < 0 then Kn.see X c else b) (Kn.see X (l.headD 0))
theorem bestK_succ {X : List Kn.Cr} {l : List Nat} {j : Nat} (h : j + 1 < l.length) : bestK X l (j + 1) = if Kn.cmpL (Kn.see X l[j + 1]).2 (bestK X l j).2 < 0 then Kn.see X l[j + 1] else bestK X l j := by
  unfold bestK
  have hj : j < l.tail.length := by simp; omega
  rw [List.take_succ_eq_append_getElem hj, List.foldl_append]
  simp
theorem bestK_all {X : List Kn.Cr} {l : List Nat} {j : Nat} (h : l.length ≤ j + 1) : bestK X l j = Kn.best X l := by
  unfold bestK Kn.best
  rw [List.take_of_length_le (by simp; omega)]
structure FB (wo wr : World) (B : Nat) (X : List Kn.Cr) (l : List Nat) (j : Nat) (b : TV) : Prop where
  new : New wo wr
  lb : wo.heap.size ≤ B
  box : wr.heap[B]? = some (.cells #[b.1.1, b.1.2] 94 (0, 0))
  at_ : VwAt wr b
  eq : b.2 = bestK X l j
theorem FB.nw {wo wr w' : World} {B : Nat} {X : List Kn.Cr} {l : List Nat} {j : Nat} {b : TV} (h : FB wo wr B X l j b) (hf : New wr w') : FB wo w' B X l j b :=
  ⟨h.new.trans hf, h.lb, hf.blk h.box fun x => x, h.at_.new hf, h.eq⟩
theorem FB.set {wo wr : World} {B : Nat} {X : List Kn.Cr} {l : List Nat} {j : Nat} {b t : TV} (h : FB wo wr B X l j b) (ht : VwAt wr t) (he : t.2 = bestK X l (j + 1)) : FB wo ((wr.setCell ⟨B, 0, none⟩ t.1.1).setCell ⟨B, 1, none⟩ t.1.2) B X l (j + 1) t := by
  have hS : Fr (fun k => k = B) wr ((wr.setCell ⟨B, 0, none⟩ t.1.1).setCell ⟨B, 1, none⟩ t.1.2) := by refine Fr.setCell (Fr.setCell (Fr.refl _ wr) ?_ _) ?_ _ <;> exact .inl rfl
  refine ⟨h.new.next hS fun i hi => .inr (by rw [hi]; exact h.lb), h.lb, (box2_set (box2_set h.box t.1.1).1 t.1.2).2, ?_, he⟩
  exact ⟨hS.owns ht.1 fun k hk e => blk_not_own h.box ht.1 (by decide) (e ▸ hk), hS.owns ht.2.1 fun k hk e => blk_not_own h.box ht.2.1 (by decide) (e ▸ hk), ht.2.2⟩
end Go.Proofs.YtgjmjbgicfkojaaGreat
