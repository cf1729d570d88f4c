/- Walks: Sum: what it makes, and what lies where. -/
import Derived.Test.YtgjmjbgicfkojaaW44
namespace Go.Proofs.Ytgjmjbgicfkojaa
open Go.RowKit

namespace Kn
theorem setA_p (x : Cr) (s : Nat) (a : Int) : (setA x s a).p = x.p := by unfold setA; (repeat' split) <;> rfl
theorem setA_arc (x : Cr) {s t : Nat} (hs : s < 4) (ht : t < 4) (a : Int) : (setA x s a).arc t = if t = s then a else x.arc t := by
  match s, hs, t, ht with
  | 0, _, 0, _ => rfl
  | 0, _, 1, _ => rfl
  | 0, _, 2, _ => rfl
  | 0, _, 3, _ => rfl
  | 1, _, 0, _ => rfl
  | 1, _, 1, _ => rfl
  | 1, _, 2, _ => rfl
  | 1, _, 3, _ => rfl
  | 2, _, 0, _ => rfl
  | 2, _, 1, _ => rfl
  | 2, _, 2, _ => rfl
  | 2, _, 3, _ => rfl
  | 3, _, 0, _ => rfl
  | 3, _, 1, _ => rfl
  | 3, _, 2, _ => rfl
  | 3, _, 3, _ => rfl
def shC (m : Nat) (x : Cr) : Cr := ⟨x.a + m, x.b + m, x.c + m, x.d + m, x.p⟩
theorem shC_arc (m : Nat) (x : Cr) (s : Nat) : (shC m x).arc s = x.arc s + m := by
  unfold Cr.arc shC; (repeat' split) <;> rfl
def sumTo (X : List Cr) (m k : Nat) : List Cr := X ++ (X.take k).map (shC m)
theorem sumTo_zero (X : List Cr) (m : Nat) : sumTo X m 0 = X := by unfold sumTo; simp
theorem sumTo_len {X : List Cr} {m k : Nat} (hk : k ≤ X.length) : (sumTo X m k).length = X.length + k := by unfold sumTo; simp; omega
theorem sumTo_succ {X : List Cr} {m k : Nat} (hk : k < X.length) : sumTo X m (k + 1) = sumTo X m k ++ [shC m (cr X k)] := by
  have e : X[k] = cr X k := by unfold cr; rw [List.getD_eq_getElem?_getD, List.getElem?_eq_getElem hk]; rfl
  unfold sumTo
  rw [List.take_succ_eq_append_getElem hk, List.map_append, ← List.append_assoc, e]
  rfl
def putA (Y : List Cr) (p : Pl) (a : Int) : List Cr := Y.set p.1 (setA (cr Y p.1) p.2 a)
theorem putA_len (Y : List Cr) (p : Pl) (a : Int) : (putA Y p a).length = Y.length := by unfold putA; rw [List.length_set]
theorem cr_putA {Y : List Cr} {p : Pl} (hp : isPl Y p) (a : Int) (c : Nat) : cr (putA Y p a) c = if c = p.1 then setA (cr Y p.1) p.2 a else cr Y c := by
  have h0 := hp.1
  unfold putA
  unfold cr
  rw [List.getD_eq_getElem?_getD, List.getD_eq_getElem?_getD, List.getElem?_set]
  by_cases e : p.1 = c
  · subst e; simp [h0]
  · rw [if_neg e, if_neg (fun h => e h.symm), List.getD_eq_getElem?_getD]
theorem cm_putA {Y : List Cr} {p : Pl} (hp : isPl Y p) (a : Int) (q : Pl) : cm (putA Y p a) q = cm Y q := by
  unfold cm
  rw [cr_putA hp]
  by_cases e : q.1 = p.1
  · rw [if_pos e, e]; unfold Cr.comes; rw [setA_p]
  · rw [if_neg e]
theorem at_putA {Y : List Cr} {p q : Pl} (hp : isPl Y p) (hq : q.2 < 4) (a : Int) : at_ (putA Y p a) q = if q = p then a else at_ Y q := by
  unfold at_
  rw [cr_putA hp]
  by_cases e : q.1 = p.1
  · rw [if_pos e, setA_arc _ hp.2 hq]
    by_cases f : q.2 = p.2
    · rw [if_pos f, if_pos (Prod.ext e f)]
    · rw [if_neg f, if_neg (fun h => f (by rw [h])), e]
  · rw [if_neg e, if_neg (fun h => e (by rw [h]))]
def sumL (X : List Cr) (x y : Nat) : List Cr :=
  putA (putA (sumTo X (nArcs X) X.length) (endP X true x) ((y + nArcs X : Nat) : Int)) (shP X.length (endP X true y)) (x : Int)
theorem cr_sumTo_l {X : List Cr} {m k c : Nat} (hc : c < X.length) : cr (sumTo X m k) c = cr X c := by
  unfold cr sumTo
  rw [List.getD_eq_getElem?_getD, List.getD_eq_getElem?_getD, List.getElem?_append_left hc]
theorem cr_sumTo_r {X : List Cr} {m c : Nat} (hc : c < X.length) : cr (sumTo X m X.length) (X.length + c) = shC m (cr X c) := by
  unfold cr sumTo
  rw [List.getD_eq_getElem?_getD, List.getD_eq_getElem?_getD, List.getElem?_append_right (by omega)]
  simp [hc]
theorem sumL_len (X : List Cr) (x y : Nat) : (sumL X x y).length = X.length + X.length := by
  unfold sumL
  rw [putA_len, putA_len, sumTo_len (Nat.le_refl _)]
theorem sumL_of {X : List Cr} {x y : Nat} (hX : Ok X) (hx : isArc X x) (hy : isArc X y) : SumOf X X (sumL X x y) x y := by
  have p1 := hX.isPl_end (io := true) hx
  have p2 := hX.isPl_end (io := true) hy
  have l0 : (sumTo X (nArcs X) X.length).length = X.length + X.length := sumTo_len (Nat.le_refl _)
  have q1 : isPl (sumTo X (nArcs X) X.length) (endP X true x) := ⟨by have := p1.1; omega, p1.2⟩
  have q2 : isPl (putA (sumTo X (nArcs X) X.length) (endP X true x) ((y + nArcs X : Nat) : Int)) (shP X.length (endP X true y)) := ⟨by
    have := p2.1; rw [putA_len, l0]; unfold shP; simp only; omega, p2.2⟩
  have hcx : ∀ p, isPl X p → cm (sumTo X (nArcs X) X.length) p = cm X p := fun p hp => by unfold cm; rw [cr_sumTo_l hp.1]
  have hcy : ∀ p, isPl X p → cm (sumTo X (nArcs X) X.length) (X.length + p.1, p.2) = cm X p := fun p hp => by
    unfold cm; simp only; rw [cr_sumTo_r hp.1]; rfl
  have hax : ∀ p, isPl X p → at_ (sumTo X (nArcs X) X.length) p = at_ X p := fun p hp => by unfold at_; rw [cr_sumTo_l hp.1]
  have hay : ∀ p, isPl X p → at_ (sumTo X (nArcs X) X.length) (X.length + p.1, p.2) = at_ X p + (nArcs X : Int) := fun p hp => by
    unfold at_; simp only; rw [cr_sumTo_r hp.1, shC_arc]
  refine ⟨sumL_len X x y, fun p hp => ?_, fun p hp => ?_, fun p hp hn => ?_, fun p hp hn => ?_, ?_, ?_⟩
  · unfold sumL; rw [cm_putA q2, cm_putA q1, hcx p hp]
  · unfold sumL; rw [cm_putA q2, cm_putA q1, hcy p hp]
  · unfold sumL
    rw [at_putA q2 hp.2, at_putA q1 hp.2, if_neg (shP_ne hp), if_neg hn, hax p hp]
  · unfold sumL
    rw [at_putA (q := (X.length + p.1, p.2)) q2 hp.2, at_putA (q := (X.length + p.1, p.2)) q1 hp.2, if_neg (show ¬ (X.length + p.1, p.2) = shP X.length (endP X true y) from fun e => hn (shP_inj (n := X.length) e)), if_neg (show ¬ (X.length + p.1, p.2) = endP X true x from fun e => shP_ne (q := p) p1 e.symm), hay p hp]
  · unfold sumL
    rw [at_putA q2 p1.2, at_putA q1 p1.2, if_neg (shP_ne p1), if_pos rfl]
    omega
  · unfold sumL
    have : at_ (putA (putA (sumTo X (nArcs X) X.length) (endP X true x) ((y + nArcs X : Nat) : Int)) (shP X.length (endP X true y)) (x : Int)) (shP X.length (endP X true y)) = x := by
      rw [at_putA (q := shP X.length (endP X true y)) q2 p2.2, if_pos rfl]
    exact this
end Kn

/- two shapes, the result's cell, and the sum as it grows -/
structure SmI (w wr : World) (bs bt bi bj D : Nat) (cs ct : Array Value) (L2 : Int) (X Y : List Kn.Cr) (sc vt : Value) : Prop where
  new : New w wr
  res : wr.heap[w.heap.size + 2]? = some (.cells #[.slice none 0 0, .int .i64 0] 24 (0, 0))
  bs : wr.heap[bs]? = some (.cells cs 68 (0, 0))
  bt : wr.heap[bt]? = some (.cells ct 68 (0, 0))
  ri : wr.rowIs bi 84 (mArcs X * 2) (plFn (Kn.inP X))
  rj : wr.rowIs bj 84 (mArcs X * 2) (plFn (Kn.inP X))
  own : wr.ownsRow w.heap.size 42 5 sc Y.length (crCells Y)
  ot : wr.ownsRow w.heap.size 42 5 vt X.length (crCells X)
  ne : ∀ k, sc.ownBlock = some k → ¬ vt.ownBlock = some k
  box : wr.heap[D]? = some (.cells #[sc, .int .i64 L2] 24 (0, 0))
  ld : w.heap.size + 3 ≤ D
section
variable {w wr w' : World} {bs bt bi bj D : Nat} {cs ct : Array Value} {L2 : Int} {X Y : List Kn.Cr} {sc vt : Value}
theorem SmI.nw (h : SmI w wr bs bt bi bj D cs ct L2 X Y sc vt) (hf : New wr w') : SmI w w' bs bt bi bj D cs ct L2 X Y sc vt :=
  ⟨h.new.trans hf, hf.blk h.res fun x => x, hf.blk h.bs fun x => x, hf.blk h.bt fun x => x, hf.row h.ri fun x => x, hf.row h.rj fun x => x, hf.owns h.own fun _ _ x => x, hf.owns h.ot fun _ _ x => x, h.ne, hf.blk h.box fun x => x, h.ld⟩
/- what touches the sum's row alone -/
theorem SmI.touch (h : SmI w wr bs bt bi bj D cs ct L2 X Y sc vt) (hF : Fr (fun k => sc.ownBlock = some k) wr w') : New w w' ∧ w'.heap[w.heap.size + 2]? = some (.cells #[.slice none 0 0, .int .i64 0] 24 (0, 0)) ∧ w'.heap[bs]? = some (.cells cs 68 (0, 0)) ∧ w'.heap[bt]? = some (.cells ct 68 (0, 0)) ∧
      w'.rowIs bi 84 (mArcs X * 2) (plFn (Kn.inP X)) ∧ w'.rowIs bj 84 (mArcs X * 2) (plFn (Kn.inP X)) ∧ w'.ownsRow w.heap.size 42 5 vt X.length (crCells X) ∧ w'.heap[D]? = some (.cells #[sc, .int .i64 L2] 24 (0, 0)) :=
  ⟨h.new.next hF fun i hi => .inr (own_lb h.own i hi), hF.blk h.res (blk_not_own h.res h.own (by decide)), hF.blk h.bs (blk_not_own h.bs h.own (by decide)), hF.blk h.bt (blk_not_own h.bt h.own (by decide)),
    hF.row h.ri (fun e => own_ne h.own h.ri (by decide) _ e rfl), hF.row h.rj (fun e => own_ne h.own h.rj (by decide) _ e rfl), hF.owns h.ot fun k hk e => h.ne k e hk, hF.blk h.box (blk_not_own h.box h.own (by decide))⟩
theorem SmI.put {g n c : Nat} (h : SmI w wr bs bt bi bj D cs ct L2 X Y (.slice (some ⟨g, 0, none⟩) n c) vt) (hn : n = Y.length) {p : Kn.Pl} (hp : Kn.isPl Y p) (a : Int) :
    SmI w (wr.setCell ⟨g, p.1 * 5 + p.2, none⟩ (.int .i64 a)) bs bt bi bj D cs ct L2 X (Kn.putA Y p a) (.slice (some ⟨g, 0, none⟩) n c) vt := by
  subst hn
  have hF : Fr (fun k => (Value.slice (some ⟨g, 0, none⟩) Y.length c).ownBlock = some k) wr (wr.setCell ⟨g, p.1 * 5 + p.2, none⟩ (.int .i64 a)) := Fr.setCell (a := ⟨g, p.1 * 5 + p.2, none⟩) (Fr.refl (fun k => (Value.slice (some ⟨g, 0, none⟩) Y.length c).ownBlock = some k) wr) (.inl rfl) _
  have ho := own_set h.own (p.1 * 5 + p.2) (.int .i64 a)
  rw [crCells_setA hp.1 hp.2 a] at ho
  have ho' : (wr.setCell ⟨g, p.1 * 5 + p.2, none⟩ (.int .i64 a)).ownsRow w.heap.size 42 5 (.slice (some ⟨g, 0, none⟩) Y.length c) (Kn.putA Y p a).length (crCells (Kn.putA Y p a)) := by rw [Kn.putA_len]; exact ho
  obtain ⟨h1, h2, h3, h4, h5, h6, h7, h8⟩ := h.touch hF
  exact ⟨h1, h2, h3, h4, h5, h6, ho', h7, h.ne, h8, h.ld⟩
theorem SmI.app {o : Obj} {w7 : World} {g c n : Nat} {x : Kn.Cr} (h : SmI w wr bs bt bi bj D cs ct L2 X Y sc vt) (hn : n = Y.length) (hown : w7.ownsRow w.heap.size 42 5 (.slice (some ⟨g, 0, none⟩) (n + 1) c) (n + 1) (crCells Y ++ [.int .i64 x.a, .int .i64 x.b, .int .i64 x.c, .int .i64 x.d, .bool x.p]))
    (hg : (wr.alloc o).grownBy w7 sc.ownBlock) (hl : sc.ownBlock = some g ∨ g = (wr.alloc o).heap.size) :
    w7.heap[D]? = some (.cells #[sc, .int .i64 L2] 24 (0, 0)) ∧ SmI w (w7.setCell ⟨D, 0, none⟩ (.slice (some ⟨g, 0, none⟩) (n + 1) c)) bs bt bi bj D cs ct L2 X (Y ++ [x]) (.slice (some ⟨g, 0, none⟩) (n + 1) c) vt := by
  subst hn
  have hF : Fr (fun k => sc.ownBlock = some k) wr w7 := ((Fr.refl _ wr).alloc o).grown hg fun k e => .inl e
  have ho : w7.ownsRow w.heap.size 42 5 (.slice (some ⟨g, 0, none⟩) (Y.length + 1) c) (Y ++ [x]).length (crCells (Y ++ [x])) := by
    rw [crCells_snoc, List.length_append, List.length_singleton]; exact hown
  have hne : ∀ k, (Value.slice (some ⟨g, 0, none⟩) (Y.length + 1) c).ownBlock = some k → ¬ vt.ownBlock = some k := by
    intro k hk e
    obtain rfl : g = k := Option.some.inj hk
    rcases hl with hl | hl
    · exact h.ne _ hl e
    · rcases h.ot.2 with ⟨rfl, _⟩ | ⟨g', cap, cur, rfl, _, hg', _⟩
      · cases e
      · have e1 : g' = g := Option.some.inj e
        have h5 := (Array.getElem?_eq_some_iff.1 hg').1
        have h6 : (wr.alloc o).heap.size = wr.heap.size + 1 := World.size_alloc _ _
        omega
  obtain ⟨h1, h2, h3, h4, h5, h6, h7, h8⟩ := h.touch hF
  have hS : Fr (fun k => k = D) w7 (w7.setCell ⟨D, 0, none⟩ (.slice (some ⟨g, 0, none⟩) (Y.length + 1) c)) := (Fr.refl (fun k => k = D) w7).setCell (.inl rfl) _
  have hnD : ∀ {B : Nat} {t : TypeId} {cs : Array Value}, t ≠ 24 → w7.heap[B]? = some (.cells cs t (0, 0)) → ¬ B = D := fun ht hB e => by
    subst e; rw [hB] at h8; cases h8; exact ht rfl
  refine ⟨h8, h1.next hS fun i hi => .inr (by have := h.ld; omega), hS.blk h2 (by have := h.ld; omega), hS.blk h3 (hnD (by decide) h3), hS.blk h4 (hnD (by decide) h4), hS.row h5 ?_, hS.row h6 ?_, hS.owns ho ?_, hS.owns h7 ?_, hne, (box2_set h8 _).1, h.ld⟩
  · obtain ⟨cs, k1, _⟩ := h5; exact hnD (by decide) k1
  · obtain ⟨cs, k1, _⟩ := h6; exact hnD (by decide) k1
  · exact fun k hk e => blk_not_own h8 ho (by decide) (e ▸ hk)
  · exact fun k hk e => blk_not_own h8 h7 (by decide) (e ▸ hk)
theorem SmI.gave (h : SmI w wr bs bt bi bj D cs ct L2 X Y sc vt) :
    GaveMir Y L2 w (.returned (.tuple #[.agg #[sc, .int .i64 L2], .int .i64 0])) ((wr.setCell ⟨w.heap.size + 2, 0, none⟩ sc).setCell ⟨w.heap.size + 2, 1, none⟩ (.int .i64 L2)) := by
  have hF : Fr (fun k => k = w.heap.size + 2) wr ((wr.setCell ⟨w.heap.size + 2, 0, none⟩ sc).setCell ⟨w.heap.size + 2, 1, none⟩ (.int .i64 L2)) := by refine Fr.setCell (Fr.setCell (Fr.refl _ wr) ?_ _) ?_ _ <;> exact .inl rfl
  exact ⟨sc, rfl, hF.owns h.own fun k hk e => blk_not_own h.res h.own (by decide) (e ▸ hk), h.new.next hF fun i hi => .inr (by omega)⟩
end
theorem isArc_any (b m : Nat) (x : Nat) (X : List Kn.Cr) (L : Int) (w : World) (h : ShAt w b X L) (hn : X.length ≤ 16) (hm : m = Kn.nArcs X) (h1 : 1 ≤ x) (h2 : x ≤ m) :
    Calls Try.prog 36 #[.pointer (some ⟨b, 0, none⟩), .int .i64 (x : Nat)] w fun e w' => e = .returned (.bool true) ∧ w = w' := by
  have H := Lib.hid h
  have i1 : (1 : Int) ≤ (x : Int) := by omega
  have i2 : (x : Int) ≤ (m : Int) := by omega
  clear h
  go_enter Try.func36, Try.ntmps36
  go_wp2_with (go_at_call 37; refine (arcsN' b m X L _ H.out hn hm).mono ?_; rintro e w' ⟨rfl, rfl⟩)
  go_ret
  simp; omega
end Go.Proofs.Ytgjmjbgicfkojaa
