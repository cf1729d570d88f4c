/- Words for states: bits; the table of ties; a shape's crossings. -/
import Derived.Test.YtdelekkbkpldjaaDoorJ0
import Derived.Test.YtdelekkbkpldjaaDoorTK
/- Words for states: bits; the table of ties; a shape's crossings. -/
namespace Go.Proofs.YtdelekkbkpldjaaDoor
open Go.RowKit

theorem and_all : ((List.range 4096).all fun q => decide (bits .and .i64 ((q : Nat) : Int) 1 = ((q % 2 : Nat) : Int))) = true := by decide +kernel
/- the table of ties -/
def tieN (i : Nat) : Nat := [0, 1, 2, 3, 1, 2, 3, 0].getD i 0
theorem ShAt.crs {w : World} {b : Nat} {X : List Kn.Cr} {L : Int} (h : ShAt w b X L) : ∃ a c, w.cell? ⟨b, 0, none⟩ = some (.slice a X.length c) ∧ w.cell? ⟨b, 1, none⟩ = some (.int .i64 L) ∧ CrsAt w a X := by
  obtain ⟨v, bi, bo, base, s⟩ := h; obtain ⟨a, c, rfl, hc⟩ := CrsAt.of_owns s.own
  exact ⟨a, c, s.c2.1, s.c2.2.1, hc⟩
theorem five_c {W : World} {B t : Nat} {a b c d e : Value} (h : W.heap[B]? = some (.cells #[a, b, c, d, e] t (0, 0))) :
    W.cell? ⟨B, 0, none⟩ = some a ∧ W.cell? ⟨B, 1, none⟩ = some b ∧ W.cell? ⟨B, 2, none⟩ = some c ∧ W.cell? ⟨B, 3, none⟩ = some d ∧ W.cell? ⟨B, 4, none⟩ = some e := by
  refine ⟨cell_of_row _ _ 0 _ t (0, 0) h, cell_of_row _ _ 1 _ t (0, 0) h, cell_of_row _ _ 2 _ t (0, 0) h, cell_of_row _ _ 3 _ t (0, 0) h, cell_of_row _ _ 4 _ t (0, 0) h⟩
theorem two_c {W : World} {B t : Nat} {a b : Value} (h : W.heap[B]? = some (.cells #[a, b] t (0, 0))) :
    W.cell? ⟨B, 0, none⟩ = some a ∧ W.cell? ⟨B, 1, none⟩ = some b := ⟨cell_of_row _ _ 0 _ t (0, 0) h, cell_of_row _ _ 1 _ t (0, 0) h⟩
theorem Kn.cr_parts' (X : List Kn.Cr) (k : Nat) : ∃ a b c d p, Hid (Kn.cr X k = ⟨a, b, c, d, p⟩) := by
  cases h : Kn.cr X k with
  | mk a b c d p => exact ⟨a, b, c, d, p, Lib.hid rfl⟩
/- the classes so far: the array, the roots, the list of roots -/
structure RgI (w wr : World) (cb n : Nat) (s : Kn.Rt) : Prop where
  new : New w wr
  cls : ∃ c r, ClAt wr cb c ∧ Forest c r ∧ ∀ a, a ≤ 2 * n → Kn.rt s.1 a = r a
  len : s.1.length = 2 * n + 1
theorem Rt.start (n : Nat) {a : Nat} (h : a ≤ 2 * n) : Kn.rt (Kn.start n).1 a = a := by
  unfold Kn.rt Kn.start
  rw [List.getD_eq_getElem?_getD, List.getElem?_eq_getElem (by simp; omega)]; simp
end Go.Proofs.YtdelekkbkpldjaaDoor

/- Walks: the rings of a state. -/
namespace Go.Proofs.YtdelekkbkpldjaaDoor
open Go.RowKit

theorem hix0 (a b c d : Int) (w : World) : (Instr.index 54 (.agg #[.int .i64 a, .int .i64 b, .int .i64 c, .int .i64 d]) (.int .i64 0)).run Tryd.prog w = .ok (.agg #[.int .i64 a, .int .i64 b]) w := by kernel_rfl
theorem hix1 (a b c d : Int) (w : World) : (Instr.index 54 (.agg #[.int .i64 a, .int .i64 b, .int .i64 c, .int .i64 d]) (.int .i64 1)).run Tryd.prog w = .ok (.agg #[.int .i64 c, .int .i64 d]) w := by kernel_rfl
theorem hix (bit j : Nat) (hj : j = 0 ∨ j = 1) (w : World) :
    (Instr.index 54 (.agg #[.int .i64 (tieN (4 * bit) : Nat), .int .i64 (tieN (4 * bit + 1) : Nat), .int .i64 (tieN (4 * bit + 2) : Nat), .int .i64 (tieN (4 * bit + 3) : Nat)]) (.int .i64 (j : Nat))).run Tryd.prog w = .ok (.agg #[.int .i64 (tieN (4 * bit + 2 * j) : Nat), .int .i64 (tieN (4 * bit + 2 * j + 1) : Nat)]) w := by
  rcases hj with rfl | rfl
  · exact hix0 _ _ _ _ w
  · exact hix1 _ _ _ _ w
end Go.Proofs.YtdelekkbkpldjaaDoor

/- Walks: OnesCount, Sign, Turns, wind.Open, bracket.open. -/
namespace Go.Proofs.YtdelekkbkpldjaaDoor
open Go.RowKit

def oc0 (x : Int) : Int := IntKind.u64.wrap (bits BinOp.and IntKind.u64 (x / 2) 6148914691236517205 + bits BinOp.and IntKind.u64 x 6148914691236517205)
def oc1 (x : Int) : Int := IntKind.u64.wrap (bits BinOp.and IntKind.u64 (oc0 x / 4) 3689348814741910323 + bits BinOp.and IntKind.u64 (oc0 x) 3689348814741910323)
def oc2 (x : Int) : Int := bits BinOp.and IntKind.u64 (IntKind.u64.wrap (oc1 x / 16 + oc1 x)) 1085102592571150095
def oc3 (x : Int) : Int := IntKind.u64.wrap (oc2 x + oc2 x / 256)
def oc4 (x : Int) : Int := IntKind.u64.wrap (oc3 x + oc3 x / 65536)
def oc5 (x : Int) : Int := IntKind.u64.wrap (oc4 x + oc4 x / 4294967296)
def oc (x : Int) : Int := bits BinOp.and IntKind.i64 (wrap64 (oc5 x)) 127
theorem oc_all : ((List.range 4096).all fun x => decide (oc ((x : Nat) : Int) = ((Kn.pop 12 x : Nat) : Int))) = true := by decide +kernel
set_option maxRecDepth 100000 in
set_option maxHeartbeats 1000000 in
theorem ones64_any (x : Nat) (hx : x < 4096) (w : World) : Calls Tryd.prog 60 #[.int .u64 x] w fun e w' => e = .returned (.int .i64 (Kn.pop 12 x : Nat)) ∧ New w w' := by
  go_enter Tryd.func60, Tryd.ntmps60
  go_wp2_with fail
  go_ret
  refine ⟨ret_int ?_, Fr.refl _ _⟩
  exact of_decide_eq_true (List.all_eq_true.1 oc_all x (List.mem_range.2 hx))
set_option maxHeartbeats 1000000 in
theorem ones_any (x : Nat) (hx : x < 4096) (w : World) : Calls Tryd.prog 46 #[.int .u64 x] w fun e w' => e = .returned (.int .i64 (Kn.pop 12 x : Nat)) ∧ New w w' := by
  have CC := Lib.hid (ones64_any x hx)
  go_enter Tryd.func46, Tryd.ntmps46
  go_wp2_with (go_at_call 60; refine (CC.out _).mono ?_; rintro e w4 ⟨rfl, hF⟩; have HF := Lib.hid hF; clear hF)
  go_ret
  exact ⟨rfl, HF.out⟩
def GaveOpen (c : Nat) (X : List Kn.Cr) (L : Int) (w : World) (e : Ending) (w' : World) : Prop :=
  New w w' ∧ ((c = 0 ∧ ∃ b, e = .returned (.tuple #[.pointer (some ⟨b, 0, none⟩), .int .i64 0]) ∧ ShAt w' b X L) ∨ (c ≠ 0 ∧ e = .returned (.tuple #[.pointer none, .int .i64 c])))
def opC (X : List Kn.Cr) (L : Int) : Nat := if Kn.mayB X L then (if Kn.planarB X then 0 else 5) else 7
set_option maxRecDepth 100000 in
set_option maxHeartbeats 1000000 in
theorem open_any (a : Option Addr) (n c : Nat) (X : List Kn.Cr) (L : Int) (w : World) (hx : CrsAt w a X) (hn : n = X.length) (lx : n ≤ 9223372036854775807) (l1 : -9223372036854775808 ≤ L) (l2 : L ≤ 9223372036854775807) :
    Calls Tryd.prog 44 #[.agg #[.slice a n c, .int .i64 L]] w (GaveOpen (opC X L) X L w) := by
  have HN := Lib.hid hn
  have HX := Lib.hid hx
  clear hx hn
  go_enter Tryd.func44, Tryd.ntmps44
  go_wp2_with (go_at_call 57; refine (new_any a n c X L _ (New.crs ((Fr.refl _ _).alloc _) HX.out) HN.out lx l1 l2).mono ?_; rintro e w4 ⟨hF, h5⟩; rcases h5 with ⟨ho, b, rfl, hs, _⟩ | ⟨ho, rfl⟩)
  · have HF : Hid (New w w4) := Lib.hid (((Fr.refl _ _).alloc _).trans hF)
    have HO := Lib.hid ho
    have HS := Lib.hid hs
    have HOK := Lib.hid (mayB_ok ho)
    clear hF ho hs
    obtain ⟨p, HP⟩ : ∃ p, Hid (p = Kn.planarB X) := ⟨_, Lib.hid rfl⟩
    have HOC : Hid (opC X L = if p then 0 else 5) := Lib.hid (by unfold opC; rw [HO.out, if_pos rfl, HP.out])
    cases p
    all_goals
      go_wp2_with (go_at_call 58; refine (planar_any b X L _ HS.out HOK.out.1 HOK.out.2).mono ?_; rintro e w5 ⟨rfl, hE⟩; rw [← HP.out]; have HE := Lib.hid hE; clear hE)
      go_ret2
    · exact ⟨HF.out.trans HE.out, .inr ⟨by rw [HOC.out]; decide, by rw [HOC.out]; rfl⟩⟩
    · exact ⟨HF.out.trans HE.out, .inl ⟨by rw [HOC.out]; rfl, b, rfl, New.shAt HE.out HS.out⟩⟩
  · have HF : Hid (New w w4) := Lib.hid (((Fr.refl _ _).alloc _).trans hF)
    have HOC : Hid (opC X L = 7) := Lib.hid (by unfold opC; rw [ho]; rfl)
    clear hF ho
    go_wp2
    go_ret2
    exact ⟨HF.out, .inr ⟨by rw [HOC.out]; decide, by rw [HOC.out]; rfl⟩⟩
end Go.Proofs.YtdelekkbkpldjaaDoor
