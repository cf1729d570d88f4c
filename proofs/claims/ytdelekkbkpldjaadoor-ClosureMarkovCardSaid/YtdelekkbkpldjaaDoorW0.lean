/- Words on worlds: what a call leaves alone. -/
import Derived.Test.YtdelekkbkpldjaaDoorProg
import Derived.WalkKit
import Derived.WalkSpells
import Derived.WalkLawsBesides
import Derived.BigQuiet
import Derived.Deep.QuietTactic
import Derived.Deep.OwnRows
import Derived.Lib.Hide
import Derived.Deep.LoopGhost
import Derived.Deep.DeepFit
import Derived.Deep.DeepMust
import Derived.Deep.RegionHeld3
import Derived.StillTailTactics
import Derived.Maps.AppendAt
import Derived.Deep.DeepCutAuto
import Derived.Outline
import Derived.IntWalk
import Derived.Test.YtdelekkbkpldjaaDoorMAllc
namespace Go.Proofs.YtdelekkbkpldjaaDoor
open Go.RowKit

theorem ret_int {k : IntKind} {a b : Int} (h : a = b) : Ending.returned (.int k a) = .returned (.int k b) := by rw [h]
theorem ret_bool {a b : Bool} (h : a = b) : Ending.returned (.bool a) = .returned (.bool b) := by rw [h]

/- of the blocks that were there in w, those outside S are as they were -/
structure Fr (S : Nat → Prop) (w w' : World) : Prop where
  os : w'.os = w.os
  tape : w'.tape = w.tape
  output : w'.output = w.output
  size : w.heap.size ≤ w'.heap.size
  block : ∀ k, k < w.heap.size → ¬ S k → w'.heap[k]? = w.heap[k]?

section
variable {S S' : Nat → Prop} {w w' w'' : World}
theorem Fr.refl (S : Nat → Prop) (w : World) : Fr S w w := ⟨rfl, rfl, rfl, Nat.le_refl _, fun _ _ _ => rfl⟩
theorem Fr.trans (h : Fr S w w') (k : Fr S w' w'') : Fr S w w'' :=
  ⟨k.os.trans h.os, k.tape.trans h.tape, k.output.trans h.output, Nat.le_trans h.size k.size, fun i hi hs => (k.block i (Nat.lt_of_lt_of_le hi h.size) hs).trans (h.block i hi hs)⟩
/- what the second turns may be new -/
theorem Fr.next (h : Fr S w w') (k : Fr S' w' w'') (hs : ∀ i, S' i → S i ∨ w.heap.size ≤ i) : Fr S w w'' :=
  ⟨k.os.trans h.os, k.tape.trans h.tape, k.output.trans h.output, Nat.le_trans h.size k.size, fun i hi hS =>
    (k.block i (Nat.lt_of_lt_of_le hi h.size) (fun hS' => (hs i hS').elim hS (fun hle => by omega))).trans (h.block i hi hS)⟩
theorem Fr.mono (h : Fr S w w') (hs : ∀ i, S i → S' i) : Fr S' w w' := ⟨h.os, h.tape, h.output, h.size, fun k hk hS => h.block k hk fun x => hS (hs k x)⟩
theorem Fr.drew (h : Fr S w w') : Fr S w w'.drew := ⟨h.os, h.tape, h.output, h.size, h.block⟩
theorem Fr.drewN (h : Fr S w w') (n : Nat) : Fr S w (w'.drewN n) := ⟨h.os, h.tape, h.output, h.size, h.block⟩
theorem Fr.alloc (h : Fr S w w') (o : Obj) : Fr S w (w'.alloc o) :=
  ⟨h.os, h.tape, h.output, by have := h.size; simp; omega, fun k hk hs => (Below.heap_alloc _ _ _ (by have := h.size; omega)).trans (h.block k hk hs)⟩
theorem Fr.setCell (h : Fr S w w') {a : Addr} (ha : S a.block ∨ w.heap.size ≤ a.block) (v : Value) : Fr S w (w'.setCell a v) :=
  ⟨h.os, h.tape, h.output, by have := h.size; simpa [World.setCell] using this, fun k hk hs => (Below.heap_setCell _ _ _ _ (fun e => by subst e; rcases ha with ha | ha; exact hs ha; omega)).trans (h.block k hk hs)⟩
theorem Fr.grown {row : Option Nat} (h : Fr S w w') (hg : w'.grownBy w'' row) (hr : ∀ k, row = some k → S k ∨ w.heap.size ≤ k) : Fr S w w'' :=
  ⟨hg.os.trans h.os, hg.tape.trans h.tape, hg.output.trans h.output, Nat.le_trans h.size hg.size, fun k hk hs =>
    (hg.block k (Nat.lt_of_lt_of_le hk h.size) (fun e => (hr k e.symm).elim hs (fun hle => by omega))).trans (h.block k hk hs)⟩
theorem Fr.row (h : Fr S w w') {b : Nat} {t : TypeId} {n : Nat} {f : Nat → Value} (hr : w.rowIs b t n f) (hb : ¬ S b) : w'.rowIs b t n f := hr.of_block (h.block b hr.lt hb)
theorem Fr.cell (h : Fr S w w') {a : Addr} {v : Value} (hc : w.cell? a = some v) (hb : ¬ S a.block) : w'.cell? a = some v :=
  (World.cell?_of_block (w := w) (h.block a.block (World.block_lt_of_cell? w a hc) hb)).trans hc
theorem Fr.owns (h : Fr S w w') {base : Nat} {e : TypeId} {size : Nat} {v : Value} {n : Nat} {xs : List Value} (ho : w.ownsRow base e size v n xs) (hb : ∀ k, v.ownBlock = some k → ¬ S k) : w'.ownsRow base e size v n xs := by
  refine ⟨ho.1, ?_⟩
  rcases ho.2 with hn | ⟨g, cap, cur, rfl, hbg, hgg, rest⟩
  · exact .inl hn
  · refine .inr ⟨g, cap, cur, rfl, hbg, ?_, rest⟩
    rw [h.block g (Array.getElem?_eq_some_iff.1 hgg).1 (hb g rfl)]
    exact hgg
theorem Fr.below (h : Fr S w w') {B : Nat} (hB : ∀ k, k < B → k < w.heap.size ∧ ¬ S k) : Below B w w' := ⟨h.os, h.tape, h.output, h.size, fun k hk => h.block k (hB k hk).1 (hB k hk).2⟩
theorem Fr.ofBelow (h : Below w.heap.size w w') (S : Nat → Prop) : Fr S w w' := ⟨h.os, h.tape, h.output, h.size, fun k hk _ => h.block k hk⟩
end

/- nothing that was there is turned -/
abbrev New (w w' : World) : Prop := Fr (fun _ => False) w w'



theorem addr_add (b o j : Nat) : (⟨b, o, none⟩ : Addr).add j = ⟨b, o + j, none⟩ := by
  unfold Addr.add
  split
  · next h => subst h; rfl
  · rfl
theorem cell_alloc {w : World} {p : Addr} {v : Value} (h : w.cell? p = some v) (o : Obj) : (w.alloc o).cell? p = some v := ((Fr.refl (fun _ => False) w).alloc o).cell h (fun x => x)
/- a crossing as a value; crossings in memory: five cells each -/
abbrev crV (x : Kn.Cr) : Value := .agg #[.int .i64 x.a, .int .i64 x.b, .int .i64 x.c, .int .i64 x.d, .bool x.p]
structure CrAt (w : World) (bl o : Nat) (x : Kn.Cr) : Prop where
  a : w.cell? ⟨bl, o, none⟩ = some (.int .i64 x.a)
  b : w.cell? ⟨bl, o + 1, none⟩ = some (.int .i64 x.b)
  c : w.cell? ⟨bl, o + 2, none⟩ = some (.int .i64 x.c)
  d : w.cell? ⟨bl, o + 3, none⟩ = some (.int .i64 x.d)
  p : w.cell? ⟨bl, o + 4, none⟩ = some (.bool x.p)
theorem Fr.crAt {S : Nat → Prop} {w w' : World} (h : Fr S w w') {b o : Nat} {x : Kn.Cr} (hx : CrAt w b o x) (hb : ¬ S b) : CrAt w' b o x :=
  ⟨h.cell hx.a hb, h.cell hx.b hb, h.cell hx.c hb, h.cell hx.d hb, h.cell hx.p hb⟩
def CrsAt (w : World) (a : Option Addr) (X : List Kn.Cr) : Prop := X = [] ∨ ∃ b o, a = some ⟨b, o, none⟩ ∧ ∀ i, i < X.length → CrAt w b (o + i * 5) (Kn.cr X i)
theorem CrsAt.at {w : World} {a : Option Addr} {X : List Kn.Cr} (h : CrsAt w a X) {k : Nat} (hk : k < X.length) : ∃ b o, a = some ⟨b, o, none⟩ ∧ CrAt w b (o + k * 5) (Kn.cr X k) := by
  rcases h with rfl | ⟨b, o, rfl, h⟩
  · simp at hk
  · exact ⟨b, o, rfl, h k hk⟩
theorem New.crs {w w' : World} (h : New w w') {a : Option Addr} {X : List Kn.Cr} (hx : CrsAt w a X) : CrsAt w' a X := by
  rcases hx with rfl | ⟨b, o, rfl, hc⟩
  · exact .inl rfl
  · exact .inr ⟨b, o, rfl, fun i hi => h.crAt (hc i hi) (fun x => x)⟩
end Go.Proofs.YtdelekkbkpldjaaDoor
