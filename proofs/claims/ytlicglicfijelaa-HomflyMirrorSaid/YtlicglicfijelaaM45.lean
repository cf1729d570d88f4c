/- Walks: set. -/
import Derived.Test.YtlicglicfijelaaM41
import Derived.Test.YtlicglicfijelaaMAllc
/- Walks: set. -/
namespace Go.Proofs.Ytlicglicfijelaa
open Go.RowKit

def setA (x : Kn.Cr) (s : Nat) (a : Int) : Kn.Cr := if s = 0 then { x with a := a } else if s = 1 then { x with b := a } else if s = 2 then { x with c := a } else { x with d := a }
set_option maxHeartbeats 2000000 in
theorem set_any (g o s : Nat) (a z : Int) (w : World) (hs : s < 4) (hc : w.cell? ⟨g, o + s, none⟩ = some (.int .i64 z)) (hf : w.frozen? ⟨g, o + s, none⟩ = false) :
    Calls Try.prog 22 #[.pointer (some ⟨g, o, none⟩), .int .i64 (s : Nat), .int .i64 a] w (fun e w' => e = .returned (.tuple #[]) ∧ New (w.setCell ⟨g, o + s, none⟩ (.int .i64 a)) w') := by
  have hi0 : ∀ (p0 p1 p2 p3 : Option Addr) (w : World), (Instr.index 84 (.agg #[.pointer p0, .pointer p1, .pointer p2, .pointer p3]) (.int .i64 0)).run Try.prog w = .ok (.pointer p0) w := fun p0 p1 p2 p3 w => by kernel_rfl
  have hi1 : ∀ (p0 p1 p2 p3 : Option Addr) (w : World), (Instr.index 84 (.agg #[.pointer p0, .pointer p1, .pointer p2, .pointer p3]) (.int .i64 1)).run Try.prog w = .ok (.pointer p1) w := fun p0 p1 p2 p3 w => by kernel_rfl
  have hi2 : ∀ (p0 p1 p2 p3 : Option Addr) (w : World), (Instr.index 84 (.agg #[.pointer p0, .pointer p1, .pointer p2, .pointer p3]) (.int .i64 2)).run Try.prog w = .ok (.pointer p2) w := fun p0 p1 p2 p3 w => by kernel_rfl
  have hi3 : ∀ (p0 p1 p2 p3 : Option Addr) (w : World), (Instr.index 84 (.agg #[.pointer p0, .pointer p1, .pointer p2, .pointer p3]) (.int .i64 3)).run Try.prog w = .ok (.pointer p3) w := fun p0 p1 p2 p3 w => by kernel_rfl
  match s, hs with
  | 0, _ =>
    have hc0 : w.cell? ⟨g, o, none⟩ = some (.int .i64 z) := hc
    have hf0 : w.frozen? ⟨g, o, none⟩ = false := hf
    go_enter Try.func22, Try.ntmps22
    go_wp2
    go_region
    go_end0
    exact ⟨rfl, (Fr.refl _ _).drew⟩
  | 1, _ =>
    go_enter Try.func22, Try.ntmps22
    go_wp2
    go_region
    go_end0
    exact ⟨rfl, (Fr.refl _ _).drew⟩
  | 2, _ =>
    go_enter Try.func22, Try.ntmps22
    go_wp2
    go_region
    go_end0
    exact ⟨rfl, (Fr.refl _ _).drew⟩
  | 3, _ =>
    go_enter Try.func22, Try.ntmps22
    go_wp2
    go_region
    go_end0
    exact ⟨rfl, (Fr.refl _ _).drew⟩
theorem crCells_setA {Y : List Kn.Cr} {k s : Nat} (hk : k < Y.length) (hs : s < 4) (a : Int) : (crCells Y).set (k * 5 + s) (.int .i64 a) = crCells (Y.set k (setA (Kn.cr Y k) s a)) := by
  apply List.ext_getElem?
  intro j
  by_cases c : j < Y.length * 5
  · rw [crCells_at (X := Y.set k (setA (Kn.cr Y k) s a)) (by rw [List.length_set]; exact c), List.getElem?_set, crCells_length]
    have hcr : Kn.cr (Y.set k (setA (Kn.cr Y k) s a)) (j / 5) = if j / 5 = k then setA (Kn.cr Y k) s a else Kn.cr Y (j / 5) := by
      unfold Kn.cr
      rw [List.getD_eq_getElem?_getD, List.getD_eq_getElem?_getD, List.getElem?_set]
      by_cases e : k = j / 5
      · subst e; simp [hk]
      · rw [if_neg e, if_neg (fun h => e h.symm), List.getD_eq_getElem?_getD]
    have hcells := crCells_at c
    unfold crFn at hcells ⊢
    rw [hcr]
    by_cases e : j / 5 = k
    · rw [if_pos e]
      obtain ⟨r, hr, rfl⟩ : ∃ r, r < 5 ∧ j = k * 5 + r := ⟨j - k * 5, by omega, by omega⟩
      rw [hcells, show (k * 5 + r) % 5 = r by omega, show (k * 5 + r) / 5 = k by omega]
      unfold setA
      match s, hs, r, hr with
      | 0, _, 0, _ => simp; omega
      | 0, _, 1, _ => simp
      | 0, _, 2, _ => simp
      | 0, _, 3, _ => simp
      | 0, _, 4, _ => simp
      | 1, _, 0, _ => simp
      | 1, _, 1, _ => simp; omega
      | 1, _, 2, _ => simp
      | 1, _, 3, _ => simp
      | 1, _, 4, _ => simp
      | 2, _, 0, _ => simp
      | 2, _, 1, _ => simp
      | 2, _, 2, _ => simp; omega
      | 2, _, 3, _ => simp
      | 2, _, 4, _ => simp
      | 3, _, 0, _ => simp
      | 3, _, 1, _ => simp
      | 3, _, 2, _ => simp
      | 3, _, 3, _ => simp; omega
      | 3, _, 4, _ => simp
    · rw [if_neg e, if_neg (by omega), hcells]
  · rw [List.getElem?_eq_none (by simp [crCells_length]; omega), List.getElem?_eq_none (by simp [crCells_length]; omega)]
end Go.Proofs.Ytlicglicfijelaa

/- Walks: Sum: what it makes, and what lies where. -/
namespace Go.Proofs.Ytlicglicfijelaa
open Go.RowKit

namespace Kn
theorem setA_p (x : Cr) (s : Nat) (a : Int) : (setA x s a).p = x.p := by unfold setA; (repeat' split) <;> rfl
theorem setA_arc (x : Cr) {s t : Nat} (hs : s < 4) (ht : t < 4) (a : Int) : (setA x s a).arc t = if t = s then a else x.arc t := by
  match s, hs, t, ht with
  | 0, _, 0, _ => rfl
  | 0, _, 1, _ => rfl
  | 0, _, 2, _ => rfl
  | 0, _, 3, _ => rfl
  | 1, _, 0, _ => rfl
  | 1, _, 1, _ => rfl
  | 1, _, 2, _ => rfl
  | 1, _, 3, _ => rfl
  | 2, _, 0, _ => rfl
  | 2, _, 1, _ => rfl
  | 2, _, 2, _ => rfl
  | 2, _, 3, _ => rfl
  | 3, _, 0, _ => rfl
  | 3, _, 1, _ => rfl
  | 3, _, 2, _ => rfl
  | 3, _, 3, _ => rfl
def shC (m : Nat) (x : Cr) : Cr := ⟨x.a + m, x.b + m, x.c + m, x.d + m, x.p⟩
theorem shC_arc (m : Nat) (x : Cr) (s : Nat) : (shC m x).arc s = x.arc s + m := by
  unfold Cr.arc shC; (repeat' split) <;> rfl
def sumTo (X Z : List Cr) (m k : Nat) : List Cr := X ++ (Z.take k).map (shC m)
theorem sumTo_zero (X Z : List Cr) (m : Nat) : sumTo X Z m 0 = X := by unfold sumTo; simp
theorem sumTo_len {X Z : List Cr} {m k : Nat} (hk : k ≤ Z.length) : (sumTo X Z m k).length = X.length + k := by unfold sumTo; simp; omega
theorem sumTo_succ {X Z : List Cr} {m k : Nat} (hk : k < Z.length) : sumTo X Z m (k + 1) = sumTo X Z m k ++ [shC m (cr Z k)] := by
  have e : Z[k] = cr Z k := by unfold cr; rw [List.getD_eq_getElem?_getD, List.getElem?_eq_getElem hk]; rfl
  unfold sumTo
  rw [List.take_succ_eq_append_getElem hk, List.map_append, ← List.append_assoc, e]
  rfl
def putA (Y : List Cr) (p : Pl) (a : Int) : List Cr := Y.set p.1 (setA (cr Y p.1) p.2 a)
theorem putA_len (Y : List Cr) (p : Pl) (a : Int) : (putA Y p a).length = Y.length := by unfold putA; rw [List.length_set]
theorem cr_putA {Y : List Cr} {p : Pl} (hp : isPl Y p) (a : Int) (c : Nat) : cr (putA Y p a) c = if c = p.1 then setA (cr Y p.1) p.2 a else cr Y c := by
  have h0 := hp.1
  unfold putA
  unfold cr
  rw [List.getD_eq_getElem?_getD, List.getD_eq_getElem?_getD, List.getElem?_set]
  by_cases e : p.1 = c
  · subst e; simp [h0]
  · rw [if_neg e, if_neg (fun h => e h.symm), List.getD_eq_getElem?_getD]
theorem cm_putA {Y : List Cr} {p : Pl} (hp : isPl Y p) (a : Int) (q : Pl) : cm (putA Y p a) q = cm Y q := by
  unfold cm
  rw [cr_putA hp]
  by_cases e : q.1 = p.1
  · rw [if_pos e, e]; unfold Cr.comes; rw [setA_p]
  · rw [if_neg e]
theorem at_putA {Y : List Cr} {p q : Pl} (hp : isPl Y p) (hq : q.2 < 4) (a : Int) : at_ (putA Y p a) q = if q = p then a else at_ Y q := by
  unfold at_
  rw [cr_putA hp]
  by_cases e : q.1 = p.1
  · rw [if_pos e, setA_arc _ hp.2 hq]
    by_cases f : q.2 = p.2
    · rw [if_pos f, if_pos (Prod.ext e f)]
    · rw [if_neg f, if_neg (fun h => f (by rw [h])), e]
  · rw [if_neg e, if_neg (fun h => e (by rw [h]))]
def sumL (X Z : List Cr) (x y : Nat) : List Cr :=
  putA (putA (sumTo X Z (nArcs X) Z.length) (endP X true x) ((y + nArcs X : Nat) : Int)) (shP X.length (endP Z true y)) (x : Int)
theorem cr_sumTo_l {X Z : List Cr} {m k c : Nat} (hc : c < X.length) : cr (sumTo X Z m k) c = cr X c := by
  unfold cr sumTo
  rw [List.getD_eq_getElem?_getD, List.getD_eq_getElem?_getD, List.getElem?_append_left hc]
theorem cr_sumTo_r {X Z : List Cr} {m c : Nat} (hc : c < Z.length) : cr (sumTo X Z m Z.length) (X.length + c) = shC m (cr Z c) := by
  unfold cr sumTo
  rw [List.getD_eq_getElem?_getD, List.getD_eq_getElem?_getD, List.getElem?_append_right (by omega)]
  simp [hc]
theorem sumL_len (X Z : List Cr) (x y : Nat) : (sumL X Z x y).length = X.length + Z.length := by
  unfold sumL
  rw [putA_len, putA_len, sumTo_len (Nat.le_refl _)]
theorem sumL_of {X Z : List Cr} {x y : Nat} (hX : Ok X) (hZ : Ok Z) (hx : isArc X x) (hy : isArc Z y) : SumOf X Z (sumL X Z x y) x y := by
  have p1 := hX.isPl_end (io := true) hx
  have p2 := hZ.isPl_end (io := true) hy
  have l0 : (sumTo X Z (nArcs X) Z.length).length = X.length + Z.length := sumTo_len (Nat.le_refl _)
  have q1 : isPl (sumTo X Z (nArcs X) Z.length) (endP X true x) := ⟨by have := p1.1; omega, p1.2⟩
  have q2 : isPl (putA (sumTo X Z (nArcs X) Z.length) (endP X true x) ((y + nArcs X : Nat) : Int)) (shP X.length (endP Z true y)) := ⟨by
    have := p2.1; rw [putA_len, l0]; unfold shP; simp only; omega, p2.2⟩
  have hcx : ∀ p, isPl X p → cm (sumTo X Z (nArcs X) Z.length) p = cm X p := fun p hp => by unfold cm; rw [cr_sumTo_l hp.1]
  have hcy : ∀ p, isPl Z p → cm (sumTo X Z (nArcs X) Z.length) (X.length + p.1, p.2) = cm Z p := fun p hp => by
    unfold cm; simp only; rw [cr_sumTo_r hp.1]; rfl
  have hax : ∀ p, isPl X p → at_ (sumTo X Z (nArcs X) Z.length) p = at_ X p := fun p hp => by unfold at_; rw [cr_sumTo_l hp.1]
  have hay : ∀ p, isPl Z p → at_ (sumTo X Z (nArcs X) Z.length) (X.length + p.1, p.2) = at_ Z p + (nArcs X : Int) := fun p hp => by
    unfold at_; simp only; rw [cr_sumTo_r hp.1, shC_arc]
  refine ⟨sumL_len X Z x y, fun p hp => ?_, fun p hp => ?_, fun p hp hn => ?_, fun p hp hn => ?_, ?_, ?_⟩
  · unfold sumL; rw [cm_putA q2, cm_putA q1, hcx p hp]
  · unfold sumL; rw [cm_putA q2, cm_putA q1, hcy p hp]
  · unfold sumL
    rw [at_putA q2 hp.2, at_putA q1 hp.2, if_neg (shP_ne hp), if_neg hn, hax p hp]
  · unfold sumL
    rw [at_putA (q := (X.length + p.1, p.2)) q2 hp.2, at_putA (q := (X.length + p.1, p.2)) q1 hp.2, if_neg (show ¬ (X.length + p.1, p.2) = shP X.length (endP Z true y) from fun e => hn (shP_inj (n := X.length) e)), if_neg (show ¬ (X.length + p.1, p.2) = endP X true x from fun e => shP_ne (q := p) p1 e.symm), hay p hp]
  · unfold sumL
    rw [at_putA q2 p1.2, at_putA q1 p1.2, if_neg (shP_ne p1), if_pos rfl]
    omega
  · unfold sumL
    have : at_ (putA (putA (sumTo X Z (nArcs X) Z.length) (endP X true x) ((y + nArcs X : Nat) : Int)) (shP X.length (endP Z true y)) (x : Int)) (shP X.length (endP Z true y)) = x := by
      rw [at_putA (q := shP X.length (endP Z true y)) q2 p2.2, if_pos rfl]
    exact this
end Kn

/- two shapes, the result's cell, and the sum as it grows -/
structure SmI (w wr : World) (bs bt bi bj D : Nat) (cs ct : Array Value) (L2 : Int) (X Z Y : List Kn.Cr) (sc vt : Value) : Prop where
  new : New w wr
  res : wr.heap[w.heap.size + 2]? = some (.cells #[.slice none 0 0, .int .i64 0] 24 (0, 0))
  bs : wr.heap[bs]? = some (.cells cs 47 (0, 0))
  bt : wr.heap[bt]? = some (.cells ct 47 (0, 0))
  ri : wr.rowIs bi 66 (mArcs X * 2) (plFn (Kn.inP X))
  rj : wr.rowIs bj 66 (mArcs Z * 2) (plFn (Kn.inP Z))
  own : wr.ownsRow w.heap.size 58 5 sc Y.length (crCells Y)
  ot : wr.ownsRow w.heap.size 58 5 vt Z.length (crCells Z)
  ne : ∀ k, sc.ownBlock = some k → ¬ vt.ownBlock = some k
  box : wr.heap[D]? = some (.cells #[sc, .int .i64 L2] 24 (0, 0))
  ld : w.heap.size + 3 ≤ D
section
variable {w wr w' : World} {bs bt bi bj D : Nat} {cs ct : Array Value} {L2 : Int} {X Z Y : List Kn.Cr} {sc vt : Value}
theorem SmI.nw (h : SmI w wr bs bt bi bj D cs ct L2 X Z Y sc vt) (hf : New wr w') : SmI w w' bs bt bi bj D cs ct L2 X Z Y sc vt :=
  ⟨h.new.trans hf, hf.blk h.res fun x => x, hf.blk h.bs fun x => x, hf.blk h.bt fun x => x, hf.row h.ri fun x => x, hf.row h.rj fun x => x, hf.owns h.own fun _ _ x => x, hf.owns h.ot fun _ _ x => x, h.ne, hf.blk h.box fun x => x, h.ld⟩
/- what touches the sum's row alone -/
theorem SmI.touch (h : SmI w wr bs bt bi bj D cs ct L2 X Z Y sc vt) (hF : Fr (fun k => sc.ownBlock = some k) wr w') : New w w' ∧ w'.heap[w.heap.size + 2]? = some (.cells #[.slice none 0 0, .int .i64 0] 24 (0, 0)) ∧ w'.heap[bs]? = some (.cells cs 47 (0, 0)) ∧ w'.heap[bt]? = some (.cells ct 47 (0, 0)) ∧
      w'.rowIs bi 66 (mArcs X * 2) (plFn (Kn.inP X)) ∧ w'.rowIs bj 66 (mArcs Z * 2) (plFn (Kn.inP Z)) ∧ w'.ownsRow w.heap.size 58 5 vt Z.length (crCells Z) ∧ w'.heap[D]? = some (.cells #[sc, .int .i64 L2] 24 (0, 0)) :=
  ⟨h.new.next hF fun i hi => .inr (own_lb h.own i hi), hF.blk h.res (blk_not_own h.res h.own (by decide)), hF.blk h.bs (blk_not_own h.bs h.own (by decide)), hF.blk h.bt (blk_not_own h.bt h.own (by decide)),
    hF.row h.ri (fun e => own_ne h.own h.ri (by decide) _ e rfl), hF.row h.rj (fun e => own_ne h.own h.rj (by decide) _ e rfl), hF.owns h.ot fun k hk e => h.ne k e hk, hF.blk h.box (blk_not_own h.box h.own (by decide))⟩
theorem SmI.put {g n c : Nat} (h : SmI w wr bs bt bi bj D cs ct L2 X Z Y (.slice (some ⟨g, 0, none⟩) n c) vt) (hn : n = Y.length) {p : Kn.Pl} (hp : Kn.isPl Y p) (a : Int) :
    SmI w (wr.setCell ⟨g, p.1 * 5 + p.2, none⟩ (.int .i64 a)) bs bt bi bj D cs ct L2 X Z (Kn.putA Y p a) (.slice (some ⟨g, 0, none⟩) n c) vt := by
  subst hn
  have hF : Fr (fun k => (Value.slice (some ⟨g, 0, none⟩) Y.length c).ownBlock = some k) wr (wr.setCell ⟨g, p.1 * 5 + p.2, none⟩ (.int .i64 a)) := Fr.setCell (a := ⟨g, p.1 * 5 + p.2, none⟩) (Fr.refl (fun k => (Value.slice (some ⟨g, 0, none⟩) Y.length c).ownBlock = some k) wr) (.inl rfl) _
  have ho := own_set h.own (p.1 * 5 + p.2) (.int .i64 a)
  rw [crCells_setA hp.1 hp.2 a] at ho
  have ho' : (wr.setCell ⟨g, p.1 * 5 + p.2, none⟩ (.int .i64 a)).ownsRow w.heap.size 58 5 (.slice (some ⟨g, 0, none⟩) Y.length c) (Kn.putA Y p a).length (crCells (Kn.putA Y p a)) := by rw [Kn.putA_len]; exact ho
  obtain ⟨h1, h2, h3, h4, h5, h6, h7, h8⟩ := h.touch hF
  exact ⟨h1, h2, h3, h4, h5, h6, ho', h7, h.ne, h8, h.ld⟩
theorem SmI.app {o : Obj} {w7 : World} {g c n : Nat} {x : Kn.Cr} (h : SmI w wr bs bt bi bj D cs ct L2 X Z Y sc vt) (hn : n = Y.length) (hown : w7.ownsRow w.heap.size 58 5 (.slice (some ⟨g, 0, none⟩) (n + 1) c) (n + 1) (crCells Y ++ [.int .i64 x.a, .int .i64 x.b, .int .i64 x.c, .int .i64 x.d, .bool x.p]))
    (hg : (wr.alloc o).grownBy w7 sc.ownBlock) (hl : sc.ownBlock = some g ∨ g = (wr.alloc o).heap.size) :
    w7.heap[D]? = some (.cells #[sc, .int .i64 L2] 24 (0, 0)) ∧ SmI w (w7.setCell ⟨D, 0, none⟩ (.slice (some ⟨g, 0, none⟩) (n + 1) c)) bs bt bi bj D cs ct L2 X Z (Y ++ [x]) (.slice (some ⟨g, 0, none⟩) (n + 1) c) vt := by
  subst hn
  have hF : Fr (fun k => sc.ownBlock = some k) wr w7 := ((Fr.refl _ wr).alloc o).grown hg fun k e => .inl e
  have ho : w7.ownsRow w.heap.size 58 5 (.slice (some ⟨g, 0, none⟩) (Y.length + 1) c) (Y ++ [x]).length (crCells (Y ++ [x])) := by
    rw [crCells_snoc, List.length_append, List.length_singleton]; exact hown
  have hne : ∀ k, (Value.slice (some ⟨g, 0, none⟩) (Y.length + 1) c).ownBlock = some k → ¬ vt.ownBlock = some k := by
    intro k hk e
    obtain rfl : g = k := Option.some.inj hk
    rcases hl with hl | hl
    · exact h.ne _ hl e
    · rcases h.ot.2 with ⟨rfl, _⟩ | ⟨g', cap, cur, rfl, _, hg', _⟩
      · cases e
      · have e1 : g' = g := Option.some.inj e
        have h5 := (Array.getElem?_eq_some_iff.1 hg').1
        have h6 : (wr.alloc o).heap.size = wr.heap.size + 1 := World.size_alloc _ _
        omega
  obtain ⟨h1, h2, h3, h4, h5, h6, h7, h8⟩ := h.touch hF
  have hS : Fr (fun k => k = D) w7 (w7.setCell ⟨D, 0, none⟩ (.slice (some ⟨g, 0, none⟩) (Y.length + 1) c)) := (Fr.refl (fun k => k = D) w7).setCell (.inl rfl) _
  have hnD : ∀ {B : Nat} {t : TypeId} {cs : Array Value}, t ≠ 24 → w7.heap[B]? = some (.cells cs t (0, 0)) → ¬ B = D := fun ht hB e => by
    subst e; rw [hB] at h8; cases h8; exact ht rfl
  refine ⟨h8, h1.next hS fun i hi => .inr (by have := h.ld; omega), hS.blk h2 (by have := h.ld; omega), hS.blk h3 (hnD (by decide) h3), hS.blk h4 (hnD (by decide) h4), hS.row h5 ?_, hS.row h6 ?_, hS.owns ho ?_, hS.owns h7 ?_, hne, (box2_set h8 _).1, h.ld⟩
  · obtain ⟨cs, k1, _⟩ := h5; exact hnD (by decide) k1
  · obtain ⟨cs, k1, _⟩ := h6; exact hnD (by decide) k1
  · exact fun k hk e => blk_not_own h8 ho (by decide) (e ▸ hk)
  · exact fun k hk e => blk_not_own h8 h7 (by decide) (e ▸ hk)
theorem SmI.gave (h : SmI w wr bs bt bi bj D cs ct L2 X Z Y sc vt) :
    GaveMir Y L2 w (.returned (.tuple #[.agg #[sc, .int .i64 L2], .int .i64 0])) ((wr.setCell ⟨w.heap.size + 2, 0, none⟩ sc).setCell ⟨w.heap.size + 2, 1, none⟩ (.int .i64 L2)) := by
  have hF : Fr (fun k => k = w.heap.size + 2) wr ((wr.setCell ⟨w.heap.size + 2, 0, none⟩ sc).setCell ⟨w.heap.size + 2, 1, none⟩ (.int .i64 L2)) := by refine Fr.setCell (Fr.setCell (Fr.refl _ wr) ?_ _) ?_ _ <;> exact .inl rfl
  exact ⟨sc, rfl, hF.owns h.own fun k hk e => blk_not_own h.res h.own (by decide) (e ▸ hk), h.new.next hF fun i hi => .inr (by omega)⟩
end
theorem isArc_any (b m : Nat) (x : Nat) (X : List Kn.Cr) (L : Int) (w : World) (h : ShAt w b X L) (hn : X.length ≤ 16) (hm : m = Kn.nArcs X) (h1 : 1 ≤ x) (h2 : x ≤ m) :
    Calls Try.prog 20 #[.pointer (some ⟨b, 0, none⟩), .int .i64 (x : Nat)] w fun e w' => e = .returned (.bool true) ∧ w = w' := by
  have H := Lib.hid h
  have i1 : (1 : Int) ≤ (x : Int) := by omega
  have i2 : (x : Int) ≤ (m : Int) := by omega
  clear h
  go_enter Try.func20, Try.ntmps20
  go_wp2_with (go_at_call 21; refine (arcsN' b m X L _ H.out hn hm).mono ?_; rintro e w' ⟨rfl, rfl⟩)
  go_ret
  simp; omega
end Go.Proofs.Ytlicglicfijelaa
