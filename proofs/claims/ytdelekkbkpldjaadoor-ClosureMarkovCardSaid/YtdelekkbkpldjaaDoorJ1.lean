/- Words for states: bits; the table of ties; a shape's crossings. -/
import Derived.Test.YtdelekkbkpldjaaDoorJ0
import Derived.Test.YtdelekkbkpldjaaDoorTK
namespace Go.Proofs.YtdelekkbkpldjaaDoor
open Go.RowKit

theorem run_shr (st k : Nat) (hk : k ≤ 16) (w : World) : (binOp .shr 3 (.int .i64 (st : Int)) (.int .i64 (k : Int))).run Tryd.prog w = .ok (.int .i64 ((st / 2 ^ k : Nat) : Int)) w := by
  simp [go_sem, binOp, Nat.min_eq_left (show k ≤ 64 by omega)]
theorem and_all : ((List.range 4096).all fun q => decide (bits .and .i64 ((q : Nat) : Int) 1 = ((q % 2 : Nat) : Int))) = true := by decide +kernel
theorem run_and (q : Nat) (hq : q < 4096) (w : World) : (binOp .and 3 (.int .i64 (q : Int)) (.int .i64 1)).run Tryd.prog w = .ok (.int .i64 ((q % 2 : Nat) : Int)) w := by
  have := of_decide_eq_true (List.all_eq_true.1 and_all q (List.mem_range.2 hq))
  simp [go_sem, binOp]
  rw [this]; simp
theorem shl_all : ((List.range 17).all fun n => decide (IntKind.i64.wrap (2 ^ min n 64) = ((2 ^ n : Nat) : Int))) = true := by decide +kernel
theorem run_shl (n : Nat) (hn : n ≤ 16) (w : World) : (binOp .shl 3 (.int .i64 1) (.int .i64 (n : Int))).run Tryd.prog w = .ok (.int .i64 ((2 ^ n : Nat) : Int)) w := by
  have := of_decide_eq_true (List.all_eq_true.1 shl_all n (List.mem_range.2 (by omega)))
  rw [show min n 64 = n by omega] at this
  simp [go_sem, binOp]
  rw [this]; simp
/- the table of ties -/
def tieN (i : Nat) : Nat := [0, 1, 2, 3, 1, 2, 3, 0].getD i 0
def EnvT (w : World) : Prop := ∀ i, i < 8 → w.cell? ⟨1, i, none⟩ = some (.int .i64 (tieN i : Nat))
theorem New.envT {w w' : World} (h : New w w') (e : EnvT w) : EnvT w' := fun i hi => h.cell (e i hi) fun x => x
theorem ShAt.crs {w : World} {b : Nat} {X : List Kn.Cr} {L : Int} (h : ShAt w b X L) : ∃ a c, w.cell? ⟨b, 0, none⟩ = some (.slice a X.length c) ∧ w.cell? ⟨b, 1, none⟩ = some (.int .i64 L) ∧ CrsAt w a X := by
  obtain ⟨v, bi, bo, base, s⟩ := h; obtain ⟨a, c, rfl, hc⟩ := CrsAt.of_owns s.own
  exact ⟨a, c, s.c2.1, s.c2.2.1, hc⟩
theorem five_c {W : World} {B t : Nat} {a b c d e : Value} (h : W.heap[B]? = some (.cells #[a, b, c, d, e] t (0, 0))) :
    W.cell? ⟨B, 0, none⟩ = some a ∧ W.cell? ⟨B, 1, none⟩ = some b ∧ W.cell? ⟨B, 2, none⟩ = some c ∧ W.cell? ⟨B, 3, none⟩ = some d ∧ W.cell? ⟨B, 4, none⟩ = some e := by
  refine ⟨cell_of_row _ _ 0 _ t (0, 0) h, cell_of_row _ _ 1 _ t (0, 0) h, cell_of_row _ _ 2 _ t (0, 0) h, cell_of_row _ _ 3 _ t (0, 0) h, cell_of_row _ _ 4 _ t (0, 0) h⟩
theorem two_c {W : World} {B t : Nat} {a b : Value} (h : W.heap[B]? = some (.cells #[a, b] t (0, 0))) :
    W.cell? ⟨B, 0, none⟩ = some a ∧ W.cell? ⟨B, 1, none⟩ = some b := ⟨cell_of_row _ _ 0 _ t (0, 0) h, cell_of_row _ _ 1 _ t (0, 0) h⟩
theorem Kn.cr_parts' (X : List Kn.Cr) (k : Nat) : ∃ a b c d p, Hid (Kn.cr X k = ⟨a, b, c, d, p⟩) := by
  cases h : Kn.cr X k with
  | mk a b c d p => exact ⟨a, b, c, d, p, Lib.hid rfl⟩
/- the classes so far: the array, the roots, the list of roots -/
structure RgI (w wr : World) (cb n : Nat) (s : Kn.Rt) : Prop where
  new : New w wr
  cls : ∃ c r, ClAt wr cb c ∧ Forest c r ∧ ∀ a, a ≤ 2 * n → Kn.rt s.1 a = r a
  len : s.1.length = 2 * n + 1
theorem rt_map (l : List Nat) (f : Nat → Nat) {a : Nat} (h : a < l.length) : Kn.rt (l.map f) a = f (Kn.rt l a) := by
  unfold Kn.rt
  rw [List.getD_eq_getElem?_getD, List.getD_eq_getElem?_getD, List.getElem?_map, List.getElem?_eq_getElem h]; rfl
theorem un_len (s : Kn.Rt) (a b : Nat) : (Kn.un s a b).1.length = s.1.length := by
  unfold Kn.un; split <;> simp
theorem RgI.new' {w wr w' : World} {cb n : Nat} {s : Kn.Rt} (h : RgI w wr cb n s) (hf : New wr w') : RgI w w' cb n s := by
  obtain ⟨c, r, h1, h2, h3⟩ := h.cls
  exact ⟨h.new.trans hf, ⟨c, r, hf.row h1 fun x => x, h2, h3⟩, h.len⟩
theorem Rt.start (n : Nat) {a : Nat} (h : a ≤ 2 * n) : Kn.rt (Kn.start n).1 a = a := by
  unfold Kn.rt Kn.start
  rw [List.getD_eq_getElem?_getD, List.getElem?_eq_getElem (by simp; omega)]; simp
end Go.Proofs.YtdelekkbkpldjaaDoor
