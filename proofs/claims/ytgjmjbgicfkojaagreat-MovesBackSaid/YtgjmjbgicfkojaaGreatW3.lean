/- Words on worlds: what a call leaves alone. -/
import Derived.Test.YtgjmjbgicfkojaaGreatProg
import Derived.WalkKit
import Derived.WalkSpells
import Derived.WalkLawsBesides
import Derived.BigQuiet
import Derived.Deep.QuietTactic
import Derived.Deep.OwnRows
import Derived.Lib.Hide
import Derived.Deep.LoopGhost
import Derived.Deep.DeepFit
import Derived.Deep.DeepMust
import Derived.Deep.RegionHeld3
import Derived.StillTailTactics
import Derived.Maps.AppendAt
import Derived.Deep.DeepCutAuto
import Derived.Outline
import Derived.IntWalk
import Derived.Test.YtgjmjbgicfkojaaGreatMAll
/- Words on worlds: what a call leaves alone. -/
namespace Go.Proofs.YtgjmjbgicfkojaaGreat
open Go.RowKit

theorem ret_int {k : IntKind} {a b : Int} (h : a = b) : Ending.returned (.int k a) = .returned (.int k b) := by rw [h]
theorem ret_bool {a b : Bool} (h : a = b) : Ending.returned (.bool a) = .returned (.bool b) := by rw [h]

structure Fr (S : Nat → Prop) (w w' : World) : Prop where
  os : w'.os = w.os
  tape : w'.tape = w.tape
  output : w'.output = w.output
  size : w.heap.size ≤ w'.heap.size
  block : ∀ k, k < w.heap.size → ¬ S k → w'.heap[k]? = w.heap[k]?

section
variable {S S' : Nat → Prop} {w w' w'' : World}
theorem Fr.refl (S : Nat → Prop) (w : World) : Fr S w w := ⟨rfl, rfl, rfl, Nat.le_refl _, fun _ _ _ => rfl⟩
theorem Fr.trans (h : Fr S w w') (k : Fr S w' w'') : Fr S w w'' :=
  ⟨k.os.trans h.os, k.tape.trans h.tape, k.output.trans h.output, Nat.le_trans h.size k.size, fun i hi hs => (k.block i (Nat.lt_of_lt_of_le hi h.size) hs).trans (h.block i hi hs)⟩
theorem Fr.next (h : Fr S w w') (k : Fr S' w' w'') (hs : ∀ i, S' i → S i ∨ w.heap.size ≤ i) : Fr S w w'' :=
  ⟨k.os.trans h.os, k.tape.trans h.tape, k.output.trans h.output, Nat.le_trans h.size k.size, fun i hi hS =>
    (k.block i (Nat.lt_of_lt_of_le hi h.size) (fun hS' => (hs i hS').elim hS (fun hle => by omega))).trans (h.block i hi hS)⟩
theorem Fr.mono (h : Fr S w w') (hs : ∀ i, S i → S' i) : Fr S' w w' := ⟨h.os, h.tape, h.output, h.size, fun k hk hS => h.block k hk fun x => hS (hs k x)⟩
theorem Fr.drew (h : Fr S w w') : Fr S w w'.drew := ⟨h.os, h.tape, h.output, h.size, h.block⟩
theorem Fr.drewN (h : Fr S w w') (n : Nat) : Fr S w (w'.drewN n) := ⟨h.os, h.tape, h.output, h.size, h.block⟩
theorem Fr.alloc (h : Fr S w w') (o : Obj) : Fr S w (w'.alloc o) :=
  ⟨h.os, h.tape, h.output, by have := h.size; simp; omega, fun k hk hs => (Below.heap_alloc _ _ _ (by have := h.size; omega)).trans (h.block k hk hs)⟩
theorem Fr.setCell (h : Fr S w w') {a : Addr} (ha : S a.block ∨ w.heap.size ≤ a.block) (v : Value) : Fr S w (w'.setCell a v) :=
  ⟨h.os, h.tape, h.output, by have := h.size; simpa [World.setCell] using this, fun k hk hs => (Below.heap_setCell _ _ _ _ (fun e => by subst e; rcases ha with ha | ha; exact hs ha; omega)).trans (h.block k hk hs)⟩
theorem Fr.grown {row : Option Nat} (h : Fr S w w') (hg : w'.grownBy w'' row) (hr : ∀ k, row = some k → S k ∨ w.heap.size ≤ k) : Fr S w w'' :=
  ⟨hg.os.trans h.os, hg.tape.trans h.tape, hg.output.trans h.output, Nat.le_trans h.size hg.size, fun k hk hs =>
    (hg.block k (Nat.lt_of_lt_of_le hk h.size) (fun e => (hr k e.symm).elim hs (fun hle => by omega))).trans (h.block k hk hs)⟩
theorem Fr.row (h : Fr S w w') {b : Nat} {t : TypeId} {n : Nat} {f : Nat → Value} (hr : w.rowIs b t n f) (hb : ¬ S b) : w'.rowIs b t n f := hr.of_block (h.block b hr.lt hb)
theorem Fr.cell (h : Fr S w w') {a : Addr} {v : Value} (hc : w.cell? a = some v) (hb : ¬ S a.block) : w'.cell? a = some v :=
  (World.cell?_of_block (w := w) (h.block a.block (World.block_lt_of_cell? w a hc) hb)).trans hc
theorem Fr.owns (h : Fr S w w') {base : Nat} {e : TypeId} {size : Nat} {v : Value} {n : Nat} {xs : List Value} (ho : w.ownsRow base e size v n xs) (hb : ∀ k, v.ownBlock = some k → ¬ S k) : w'.ownsRow base e size v n xs := by
  refine ⟨ho.1, ?_⟩
  rcases ho.2 with hn | ⟨g, cap, cur, rfl, hbg, hgg, rest⟩
  · exact .inl hn
  · refine .inr ⟨g, cap, cur, rfl, hbg, ?_, rest⟩
    rw [h.block g (Array.getElem?_eq_some_iff.1 hgg).1 (hb g rfl)]
    exact hgg
theorem Fr.below (h : Fr S w w') {B : Nat} (hB : ∀ k, k < B → k < w.heap.size ∧ ¬ S k) : Below B w w' := ⟨h.os, h.tape, h.output, h.size, fun k hk => h.block k (hB k hk).1 (hB k hk).2⟩
end

abbrev New (w w' : World) : Prop := Fr (fun _ => False) w w'



theorem addr_add (b o j : Nat) : (⟨b, o, none⟩ : Addr).add j = ⟨b, o + j, none⟩ := by
  unfold Addr.add
  split
  · next h => subst h; rfl
  · rfl
theorem cell_alloc {w : World} {p : Addr} {v : Value} (h : w.cell? p = some v) (o : Obj) : (w.alloc o).cell? p = some v := ((Fr.refl (fun _ => False) w).alloc o).cell h (fun x => x)
abbrev crV (x : Kn.Cr) : Value := .agg #[.int .i64 x.a, .int .i64 x.b, .int .i64 x.c, .int .i64 x.d, .bool x.p]
structure CrAt (w : World) (bl o : Nat) (x : Kn.Cr) : Prop where
  a : w.cell? ⟨bl, o, none⟩ = some (.int .i64 x.a)
  b : w.cell? ⟨bl, o + 1, none⟩ = some (.int .i64 x.b)
  c : w.cell? ⟨bl, o + 2, none⟩ = some (.int .i64 x.c)
  d : w.cell? ⟨bl, o + 3, none⟩ = some (.int .i64 x.d)
  p : w.cell? ⟨bl, o + 4, none⟩ = some (.bool x.p)
theorem Fr.crAt {S : Nat → Prop} {w w' : World} (h : Fr S w w') {b o : Nat} {x : Kn.Cr} (hx : CrAt w b o x) (hb : ¬ S b) : CrAt w' b o x :=
  ⟨h.cell hx.a hb, h.cell hx.b hb, h.cell hx.c hb, h.cell hx.d hb, h.cell hx.p hb⟩
def CrsAt (w : World) (a : Option Addr) (X : List Kn.Cr) : Prop := X = [] ∨ ∃ b o, a = some ⟨b, o, none⟩ ∧ ∀ i, i < X.length → CrAt w b (o + i * 5) (Kn.cr X i)
theorem CrsAt.at {w : World} {a : Option Addr} {X : List Kn.Cr} (h : CrsAt w a X) {k : Nat} (hk : k < X.length) : ∃ b o, a = some ⟨b, o, none⟩ ∧ CrAt w b (o + k * 5) (Kn.cr X k) := by
  rcases h with rfl | ⟨b, o, rfl, h⟩
  · simp at hk
  · exact ⟨b, o, rfl, h k hk⟩
theorem New.crs {w w' : World} (h : New w w') {a : Option Addr} {X : List Kn.Cr} (hx : CrsAt w a X) : CrsAt w' a X := by
  rcases hx with rfl | ⟨b, o, rfl, hc⟩
  · exact .inl rfl
  · exact .inr ⟨b, o, rfl, fun i hi => h.crAt (hc i hi) (fun x => x)⟩
end Go.Proofs.YtgjmjbgicfkojaaGreat

/- Walks: Arc, OverIn, Comes. -/
namespace Go.Proofs.YtgjmjbgicfkojaaGreat
open Go.RowKit

def arcI (a b c d : Int) (s : Nat) : Int := if s = 0 then a else if s = 1 then b else if s = 2 then c else d
set_option maxHeartbeats 400000 in
theorem arc_any (a b c d : Int) (p : Bool) (s : Nat) (w : World) (hs : s < 4) :
    Calls Tryz.prog 52 #[.agg #[.int .i64 a, .int .i64 b, .int .i64 c, .int .i64 d, .bool p], .int .i64 s] w fun e w' => e = .returned (.int .i64 (arcI a b c d s)) ∧ New w w' := by
  match s, hs with
  | 0, _ =>
    have hi : ∀ w, (Instr.index 114 (.agg #[.int .i64 a, .int .i64 b, .int .i64 c, .int .i64 d]) (.int .i64 0)).run Tryz.prog w = .ok (.int .i64 a) w := fun _ => by kernel_rfl
    go_enter Tryz.func52, Tryz.ntmps52
    go_wp2; go_ret
    exact ⟨rfl, (Fr.refl _ _).alloc _⟩
  | 1, _ =>
    have hi : ∀ w, (Instr.index 114 (.agg #[.int .i64 a, .int .i64 b, .int .i64 c, .int .i64 d]) (.int .i64 1)).run Tryz.prog w = .ok (.int .i64 b) w := fun _ => by kernel_rfl
    go_enter Tryz.func52, Tryz.ntmps52
    go_wp2; go_ret
    exact ⟨rfl, (Fr.refl _ _).alloc _⟩
  | 2, _ =>
    have hi : ∀ w, (Instr.index 114 (.agg #[.int .i64 a, .int .i64 b, .int .i64 c, .int .i64 d]) (.int .i64 2)).run Tryz.prog w = .ok (.int .i64 c) w := fun _ => by kernel_rfl
    go_enter Tryz.func52, Tryz.ntmps52
    go_wp2; go_ret
    exact ⟨rfl, (Fr.refl _ _).alloc _⟩
  | 3, _ =>
    have hi : ∀ w, (Instr.index 114 (.agg #[.int .i64 a, .int .i64 b, .int .i64 c, .int .i64 d]) (.int .i64 3)).run Tryz.prog w = .ok (.int .i64 d) w := fun _ => by kernel_rfl
    go_enter Tryz.func52, Tryz.ntmps52
    go_wp2; go_ret
    exact ⟨rfl, (Fr.refl _ _).alloc _⟩

set_option maxHeartbeats 400000 in
theorem overIn_any (a b c d : Int) (p : Bool) (w : World) :
    Calls Tryz.prog 80 #[.agg #[.int .i64 a, .int .i64 b, .int .i64 c, .int .i64 d, .bool p]] w fun e w' => e = .returned (.int .i64 (Kn.over p : Nat)) ∧ New w w' := by
  cases p
  · go_enter Tryz.func80, Tryz.ntmps80
    go_wp2; go_ret
    exact ⟨rfl, (Fr.refl _ _).alloc _⟩
  · go_enter Tryz.func80, Tryz.ntmps80
    go_wp2; go_ret
    exact ⟨rfl, (Fr.refl _ _).alloc _⟩

def comesB (p : Bool) (s : Nat) : Bool := decide (s = 0) || decide (s = Kn.over p)
set_option maxHeartbeats 400000 in
theorem comes_any (a b c d : Int) (p : Bool) (s : Nat) (w : World) (hs : s < 4) :
    Calls Tryz.prog 68 #[.agg #[.int .i64 a, .int .i64 b, .int .i64 c, .int .i64 d, .bool p], .int .i64 s] w fun e w' => e = .returned (.bool (comesB p s)) ∧ New w w' := by
  have key : ∀ s : Nat, s = 0 ∨ ¬ s = 0 := fun s => by omega
  rcases key s with h | h
  · subst h
    go_enter Tryz.func68, Tryz.ntmps68
    go_wp2; go_ret
    exact ⟨rfl, (Fr.refl _ _).alloc _⟩
  · obtain ⟨t, HT⟩ : ∃ t, Hid (t = Kn.over p) := ⟨_, Lib.hid rfl⟩
    have h0 : decide ((s : Int) = 0) = false := by simpa using h
    have H0 := Lib.hid h; clear h
    go_enter Tryz.func68, Tryz.ntmps68
    go_wp2_with (go_at_call 80; refine (overIn_any _ _ _ _ _ _).mono ?_; rintro e w' ⟨rfl, hF⟩; rw [← HT.out]; have HF := Lib.hid hF; clear hF)
    go_ret
    refine ⟨ret_bool ?_, ((Fr.refl _ _).alloc _).trans HF.out⟩
    unfold comesB
    rw [← HT.out]; have := H0.out
    by_cases c : s = t <;> simp [this, c]
    omega
end Go.Proofs.YtgjmjbgicfkojaaGreat

/- Walks: slices.Clone of crossings. -/
namespace Go.Proofs.YtgjmjbgicfkojaaGreat
open Go.RowKit

theorem Tryz.info75 : (Tryz.prog.info? 75).map (fun i => (i.zero, i.size, i.bytes)) = some (some (.agg #[.int .i64 0, .int .i64 0, .int .i64 0, .int .i64 0, .bool false]), 5, 40) := by kernel_rfl
def crFn (X : List Kn.Cr) (j : Nat) : Value :=
  if j % 5 = 0 then .int .i64 (Kn.cr X (j / 5)).a else if j % 5 = 1 then .int .i64 (Kn.cr X (j / 5)).b else if j % 5 = 2 then .int .i64 (Kn.cr X (j / 5)).c else if j % 5 = 3 then .int .i64 (Kn.cr X (j / 5)).d else .bool (Kn.cr X (j / 5)).p
def crCells (X : List Kn.Cr) : List Value := (List.range (X.length * 5)).map (crFn X)
theorem crCells_length (X : List Kn.Cr) : (crCells X).length = X.length * 5 := by simp [crCells]
theorem crCells_get {X : List Kn.Cr} {j : Nat} {u : Value} (h : (crCells X)[j]? = some u) : j < X.length * 5 ∧ u = crFn X j := by
  unfold crCells at h
  rw [List.getElem?_map] at h
  by_cases c : j < X.length * 5
  · rw [List.getElem?_range c] at h
    simp only [Option.map_some, Option.some.injEq] at h
    exact ⟨c, h.symm⟩
  · rw [List.getElem?_eq_none (by simpa using c)] at h; cases h
theorem crCells_at {X : List Kn.Cr} {j : Nat} (h : j < X.length * 5) : (crCells X)[j]? = some (crFn X j) := by
  unfold crCells
  rw [List.getElem?_map, List.getElem?_range h]; rfl
theorem crFn_cell {w : World} {b o i : Nat} {X : List Kn.Cr} (h : CrAt w b (o + i * 5) (Kn.cr X i)) {k : Nat} (hk : k < 5) : w.cell? ⟨b, o + (i * 5 + k), none⟩ = some (crFn X (i * 5 + k)) := by
  unfold crFn
  rw [show (i * 5 + k) / 5 = i by omega, show (i * 5 + k) % 5 = k by omega, ← Nat.add_assoc]
  match k, hk with
  | 0, _ => exact h.a
  | 1, _ => exact h.b
  | 2, _ => exact h.c
  | 3, _ => exact h.d
  | 4, _ => exact h.p
theorem crAt_of {w : World} {b o i : Nat} {X : List Kn.Cr} (h : ∀ k, k < 5 → w.cell? ⟨b, o + (i * 5 + k), none⟩ = some (crFn X (i * 5 + k))) : CrAt w b (o + i * 5) (Kn.cr X i) := by
  have key : ∀ k, k < 5 → crFn X (i * 5 + k) = if k = 0 then .int .i64 (Kn.cr X i).a else if k = 1 then .int .i64 (Kn.cr X i).b else if k = 2 then .int .i64 (Kn.cr X i).c else if k = 3 then .int .i64 (Kn.cr X i).d else .bool (Kn.cr X i).p := fun k hk => by
    unfold crFn
    rw [show (i * 5 + k) / 5 = i by omega, show (i * 5 + k) % 5 = k by omega]
  have h0 := h 0 (by omega); have h1 := h 1 (by omega); have h2 := h 2 (by omega); have h3 := h 3 (by omega); have h4 := h 4 (by omega); rw [key _ (by omega), ← Nat.add_assoc] at h0 h1 h2 h3 h4
  exact ⟨h0, h1, h2, h3, h4⟩
theorem CrsAt.news {w : World} {ad : Addr} {X : List Kn.Cr} (h : CrsAt w (some ad) X) : ∀ j u, (crCells X)[j]? = some u → w.cell? (ad.add j) = some u := by
  intro j u hu
  obtain ⟨hj, rfl⟩ := crCells_get hu; obtain ⟨b, o, e, hc⟩ := h.at (k := j / 5) (by omega)
  cases e
  rw [addr_add]; have := crFn_cell hc (k := j % 5) (by omega)
  rwa [show j / 5 * 5 + j % 5 = j by omega] at this
theorem crCells_one (X : List Kn.Cr) : ∀ u ∈ crCells X, u.oneCell' = true := by
  intro u hu
  obtain ⟨j, _, rfl⟩ := List.mem_map.1 hu
  unfold crFn
  split
  · rfl
  split
  · rfl
  split
  · rfl
  split <;> rfl
theorem CrsAt.of_owns {w : World} {base : Nat} {v : Value} {X : List Kn.Cr} (h : w.ownsRow base 75 5 v X.length (crCells X)) : ∃ a c, v = .slice a X.length c ∧ CrsAt w a X := by
  rcases h.2 with ⟨rfl, h0⟩ | ⟨g, cap, cur, rfl, hb, hg, hn, hc, hs, ht⟩
  · rw [h0]
    exact ⟨none, 0, rfl, .inl (List.length_eq_zero_iff.1 h0)⟩
  · refine ⟨_, cap, rfl, .inr ⟨g, 0, rfl, fun i hi => crAt_of fun k hk => ?_⟩⟩
    have := World.ownsRow.cells h (g := g) rfl (i * 5 + k) (crFn X (i * 5 + k)) (crCells_at (by omega))
    rwa [addr_add] at this
def GaveCrs (X : List Kn.Cr) (w : World) (e : Ending) (w' : World) : Prop := ∃ v, e = .returned v ∧ w'.ownsRow w.heap.size 75 5 v X.length (crCells X) ∧ New w w'

set_option maxHeartbeats 400000 in
theorem clone_any (a : Option Addr) (c : Nat) (X : List Kn.Cr) (w : World) (hx : CrsAt w a X) (lx : X.length ≤ 1000) :
    Calls Tryz.prog 67 #[.slice a X.length c] w (GaveCrs X w) := by
  have hnil := fun (w : World) (a : Option Addr) (n c n' c' : Nat) => Lib.run_eql_slice_nil (P := Tryz.prog) w 22 75 a n c n' c' Tryz.underlying22
  have HX := Lib.hid hx; clear hx
  cases a with
  | none =>
    have hx0 : X = [] := by
      rcases HX.out with h | ⟨b, o, e, _⟩
      · exact h
      · cases e
    subst hx0
    go_enter Tryz.func67, Tryz.ntmps67
    go_wp2; go_ret
    exact ⟨_, rfl, ⟨rfl, .inl ⟨rfl, rfl⟩⟩, Fr.refl _ _⟩
  | some ad =>
    obtain ⟨i0, hi, hz0, hz1, hz2⟩ := info_parts Tryz.info75
    go_enter Tryz.func67, Tryz.ntmps67
    go_wp2_with (at_builtin; refine wpList_append_own _ rfl _ _ 22 rfl w.heap.size 75 i0 _ 5 40 Tryz.underlying22 hi hz0 hz1 hz2 rfl (by decide) _ 0 [] rfl (World.ownsRow_made _ _ _ ?c0 ?c0b ?c0c) ad X.length c (crCells X) rfl ?c1 ?c2 ?c3 ?c4 ?c5 ?c6 ?_)
    case c0 => exact Nat.le_refl _
    case c0b => exact Nat.zero_le _
    case c0c => rfl
    case c1 => rw [crCells_length]
    case c2 => exact (New.crs ((Fr.refl _ _).alloc _) HX.out).news
    case c3 => exact crCells_one X
    case c4 => unfold maxLen; omega
    case c5 => omega
    case c6 => simp
    intro v' w1 hown hgrow _
    have hfr : New w w1 := ((Fr.refl (fun _ => False) w).alloc (.cells #[] 75)).grown hgrow fun k e => by
      right
      simp only [Value.ownBlock, Option.some.injEq] at e
      omega
    obtain ⟨a', c', rfl, h1⟩ := CrsAt.of_owns hown; have H1 := Lib.hid hown; have HF := Lib.hid hfr; clear hown hgrow h1 hfr; go_wp2; go_ret
    exact ⟨_, rfl, H1.out, HF.out⟩
theorem clone_n (a : Option Addr) (n c : Nat) (X : List Kn.Cr) (w : World) (hx : CrsAt w a X) (hn : n = X.length) (lx : n ≤ 1000) :
    Calls Tryz.prog 67 #[.slice a n c] w (GaveCrs X w) := by
  subst hn; exact clone_any a c X w hx lx
end Go.Proofs.YtgjmjbgicfkojaaGreat

/- Words for shapes; what Build keeps from place to place. -/
namespace Go.Proofs.YtgjmjbgicfkojaaGreat
open Go.RowKit

theorem Tryz.info82 : (Tryz.prog.info? 82).map (fun i => (i.zero, i.size, i.bytes)) = some (some (.agg #[.int .i64 0, .int .i64 0]), 2, 16) := by kernel_rfl
theorem Tryz.info3 : (Tryz.prog.info? 3).map (fun i => (i.zero, i.size, i.bytes)) = some (some (.int .i64 0), 1, 8) := by kernel_rfl
def plFn (g : Nat → Kn.Pl) (j : Nat) : Value := if j % 2 = 0 then .int .i64 ((g (j / 2)).1 : Nat) else .int .i64 ((g (j / 2)).2 : Nat)
def numFn (g : Nat → Nat) (j : Nat) : Value := .int .i64 (g j : Nat)
theorem plFn_0 (g : Nat → Kn.Pl) (a : Nat) : plFn g (a * 2) = .int .i64 ((g a).1 : Nat) := by
  unfold plFn; rw [show a * 2 / 2 = a by omega, if_pos (by omega)]
theorem plFn_1 (g : Nat → Kn.Pl) (a : Nat) : plFn g (a * 2 + 1) = .int .i64 ((g a).2 : Nat) := by
  unfold plFn; rw [show (a * 2 + 1) / 2 = a by omega, if_neg (by omega)]
theorem rowIs_made2 (w : World) (m : Nat) : (w.alloc (.cells (madeCells #[.int .i64 0, .int .i64 0] m) 82)).rowIs w.heap.size 82 m (plFn fun _ => (0, 0)) := by
  have := World.rowIs_alloc w (madeCells #[.int .i64 0, .int .i64 0] m) 82 (plFn fun _ => (0, 0)) (fun i hi => by
    rw [size_madeCells] at hi
    have e : (madeCells #[Value.int .i64 0, .int .i64 0] m)[i]? = some (#[Value.int .i64 0, .int .i64 0][i % 2]!) := by simp [madeCells, hi]
    rw [e]
    unfold plFn
    rcases Nat.mod_two_eq_zero_or_one i with h | h <;> rw [h] <;> rfl)
  rwa [size_madeCells] at this
theorem rowIs_congr {w : World} {b t n : Nat} {f g : Nat → Value} (h : w.rowIs b t n f) (hg : ∀ j, j < n → g j = f j) : w.rowIs b t n g := by
  obtain ⟨c, h1, h2, h3⟩ := h
  exact ⟨c, h1, h2, fun i hi => by rw [h3 i hi, hg i hi]⟩
theorem rowIs_set2 {w : World} {b m : Nat} {g : Nat → Kn.Pl} (h : w.rowIs b 82 m (plFn g)) (a : Nat) (p : Kn.Pl) :
    ((w.setCell ⟨b, a * 2, none⟩ (.int .i64 (p.1 : Nat))).setCell ⟨b, a * 2 + 1, none⟩ (.int .i64 (p.2 : Nat))).rowIs b 82 m (plFn fun x => if x = a then p else g x) := by
  refine rowIs_congr ((h.set _ _).set _ _) fun j _ => ?_
  unfold plFn
  by_cases c : j / 2 = a
  · subst c
    simp only [if_true]
    by_cases e : j % 2 = 0
    · rw [if_pos e, if_neg (by omega), if_pos (by omega)]
    · rw [if_neg e, if_pos (by omega)]
  · have e1 : ¬ j = a * 2 := by omega
    have e2 : ¬ j = a * 2 + 1 := by omega
    simp only [if_neg c, if_neg e1, if_neg e2]
theorem rowIs_setN {w : World} {b m : Nat} {g : Nat → Nat} (h : w.rowIs b 3 m (numFn g)) (a v : Nat) : (w.setCell ⟨b, a, none⟩ (.int .i64 (v : Nat))).rowIs b 3 m (numFn fun x => if x = a then v else g x) := by
  refine rowIs_congr (h.set _ _) fun j _ => ?_
  unfold numFn
  by_cases c : j = a
  · simp only [if_pos c]
  · simp only [if_neg c]
theorem rowIs_ne {w : World} {b b' t t' n n' : Nat} {f f' : Nat → Value} (h : w.rowIs b t n f) (h' : w.rowIs b' t' n' f') (ht : t ≠ t') : b ≠ b' := by
  rintro rfl; obtain ⟨c, h1, _⟩ := h; obtain ⟨c', h1', _⟩ := h'; rw [h1] at h1'
  injection h1' with h1'
  injection h1' with _ h1'
  exact ht h1'

def shCells (v : Value) (L : Int) (bi bo m : Nat) : Array Value := #[v, .int .i64 L, .slice (some ⟨bi, 0, none⟩) m m, .slice (some ⟨bo, 0, none⟩) m m]
abbrev mArcs (X : List Kn.Cr) : Nat := 2 * X.length + 1
structure Sh (w : World) (b : Nat) (X : List Kn.Cr) (L : Int) (v : Value) (bi bo base : Nat) (g h : Nat → Kn.Pl) : Prop where
  blk : w.heap[b]? = some (.cells (shCells v L bi bo (mArcs X)) 67 (0, 0))
  own : w.ownsRow base 75 5 v X.length (crCells X)
  ri : w.rowIs bi 82 (mArcs X * 2) (plFn g)
  ro : w.rowIs bo 82 (mArcs X * 2) (plFn h)
  ne : bi ≠ bo
def ShAt (w : World) (b : Nat) (X : List Kn.Cr) (L : Int) : Prop := ∃ v bi bo base, Sh w b X L v bi bo base (Kn.inP X) (Kn.outP X)
theorem Sh.lt {w : World} {b : Nat} {X : List Kn.Cr} {L : Int} {v : Value} {bi bo base : Nat} {g h : Nat → Kn.Pl} (s : Sh w b X L v bi bo base g h) : b < w.heap.size := (Array.getElem?_eq_some_iff.1 s.blk).1
theorem Sh.kept {S : Nat → Prop} {w w' : World} {b : Nat} {X : List Kn.Cr} {L : Int} {v : Value} {bi bo base : Nat} {g h : Nat → Kn.Pl} (s : Sh w b X L v bi bo base g h) (hf : Fr S w w')
    (h0 : ¬ S b) (h1 : ¬ S bi) (h2 : ¬ S bo) (h3 : ∀ k, v.ownBlock = some k → ¬ S k) : Sh w' b X L v bi bo base g h :=
  ⟨(hf.block b s.lt h0).trans s.blk, hf.owns s.own h3, hf.row s.ri h1, hf.row s.ro h2, s.ne⟩
theorem New.sh {w w' : World} (hf : New w w') {b : Nat} {X : List Kn.Cr} {L : Int} {v : Value} {bi bo base : Nat} {g h : Nat → Kn.Pl} (s : Sh w b X L v bi bo base g h) : Sh w' b X L v bi bo base g h :=
  s.kept hf (fun x => x) (fun x => x) (fun x => x) (fun _ _ x => x)
theorem New.shAt {w w' : World} (hf : New w w') {b : Nat} {X : List Kn.Cr} {L : Int} (s : ShAt w b X L) : ShAt w' b X L := by
  obtain ⟨v, bi, bo, base, s⟩ := s
  exact ⟨v, bi, bo, base, hf.sh s⟩
theorem Sh.c2 {w : World} {b : Nat} {X : List Kn.Cr} {L : Int} {v : Value} {bi bo base : Nat} {g h : Nat → Kn.Pl} (s : Sh w b X L v bi bo base g h) :
    w.cell? ⟨b, 0, none⟩ = some v ∧ w.cell? ⟨b, 1, none⟩ = some (.int .i64 L) ∧ w.cell? ⟨b, 2, none⟩ = some (.slice (some ⟨bi, 0, none⟩) (mArcs X) (mArcs X)) ∧ w.cell? ⟨b, 3, none⟩ = some (.slice (some ⟨bo, 0, none⟩) (mArcs X) (mArcs X)) :=
  ⟨cell_of_row w b 0 _ 67 (0, 0) s.blk, cell_of_row w b 1 _ 67 (0, 0) s.blk, cell_of_row w b 2 _ 67 (0, 0) s.blk, cell_of_row w b 3 _ 67 (0, 0) s.blk⟩

structure BSt (w0 w : World) (X : List Kn.Cr) (L : Int) (b : Nat) (v : Value) (bi bo ci co base : Nat) (k : Nat) : Prop where
  sh : Sh w b X L v bi bo base (Kn.last X true k) (Kn.last X false k)
  rc : w.rowIs ci 3 (mArcs X) (numFn (Kn.cnt X true k))
  rd : w.rowIs co 3 (mArcs X) (numFn (Kn.cnt X false k))
  ne : ci ≠ co
  lb : w0.heap.size ≤ b
  li : w0.heap.size ≤ bi
  lo : w0.heap.size ≤ bo
  lc : w0.heap.size ≤ ci
  ld : w0.heap.size ≤ co
  new : New w0 w
  rng : Kn.inRange X k
theorem New.bst {w0 w w' : World} (hf : New w w') {X : List Kn.Cr} {L : Int} {b : Nat} {v : Value} {bi bo ci co base k : Nat} (s : BSt w0 w X L b v bi bo ci co base k) : BSt w0 w' X L b v bi bo ci co base k :=
  ⟨hf.sh s.sh, hf.row s.rc fun x => x, hf.row s.rd fun x => x, s.ne, s.lb, s.li, s.lo, s.lc, s.ld, s.new.trans hf, s.rng⟩
theorem own_ne {w : World} {base e sz n : Nat} {v : Value} {xs : List Value} (h : w.ownsRow base e sz v n xs) {b t m : Nat} {f : Nat → Value} (hr : w.rowIs b t m f) (ht : e ≠ t) : ∀ k, v.ownBlock = some k → ¬ k = b := by
  intro k hk hb
  rcases h.2 with ⟨rfl, _⟩ | ⟨g, cap, cur, rfl, _, hg, _⟩
  · simp [Value.ownBlock] at hk
  · simp only [Value.ownBlock, Option.some.injEq] at hk
    subst hk hb; obtain ⟨c, h1, _⟩ := hr; rw [h1] at hg
    injection hg with hg
    injection hg with _ hg
    exact ht hg.symm
theorem blk_ne {w : World} {b t b' t' n : Nat} {cs : Array Value} {f : Nat → Value} (h : w.heap[b]? = some (.cells cs t (0, 0))) (hr : w.rowIs b' t' n f) (ht : t ≠ t') : b ≠ b' := by
  rintro rfl; obtain ⟨c, h1, _⟩ := hr; rw [h1] at h
  injection h with h
  injection h with _ h
  exact ht h.symm
theorem BSt.step_in {w0 w : World} {X : List Kn.Cr} {L : Int} {b : Nat} {v : Value} {bi bo ci co base k n : Nat} (s : BSt w0 w X L b v bi bo ci co base k)
    (hc : Kn.cm X (Kn.pl k) = true) (ha : Kn.at_ X (Kn.pl k) = (n : Int)) (h1 : 1 ≤ n) (h2 : n ≤ 2 * X.length) :
    BSt w0 (((w.setCell ⟨bi, n * 2, none⟩ (.int .i64 ((Kn.pl k).1 : Nat))).setCell ⟨bi, n * 2 + 1, none⟩ (.int .i64 ((Kn.pl k).2 : Nat))).setCell ⟨ci, n, none⟩ (.int .i64 ((Kn.cnt X true k n + 1 : Nat) : Int))) X L b v bi bo ci co base (k + 1) := by
  have d1 : b ≠ bi := blk_ne s.sh.blk s.sh.ri (by decide); have d2 : b ≠ ci := blk_ne s.sh.blk s.rc (by decide); have d3 : bi ≠ ci := rowIs_ne s.sh.ri s.rc (by decide); have d4 : bo ≠ ci := rowIs_ne s.sh.ro s.rc (by decide); have d5 := own_ne s.sh.own s.sh.ri (by decide); have d6 := own_ne s.sh.own s.rc (by decide)
  have hF : Fr (fun x => x = bi ∨ x = ci) w (((w.setCell ⟨bi, n * 2, none⟩ (.int .i64 ((Kn.pl k).1 : Nat))).setCell ⟨bi, n * 2 + 1, none⟩ (.int .i64 ((Kn.pl k).2 : Nat))).setCell ⟨ci, n, none⟩ (.int .i64 ((Kn.cnt X true k n + 1 : Nat) : Int))) :=
    (((Fr.refl _ w).setCell (.inl (.inl rfl)) _).setCell (.inl (.inl rfl)) _).setCell (.inl (.inr rfl)) _
  have hN : New w0 (((w.setCell ⟨bi, n * 2, none⟩ (.int .i64 ((Kn.pl k).1 : Nat))).setCell ⟨bi, n * 2 + 1, none⟩ (.int .i64 ((Kn.pl k).2 : Nat))).setCell ⟨ci, n, none⟩ (.int .i64 ((Kn.cnt X true k n + 1 : Nat) : Int))) :=
    ((s.new.setCell (.inr s.li) _).setCell (.inr s.li) _).setCell (.inr s.lc) _
  refine ⟨⟨(hF.block b s.sh.lt (by omega)).trans s.sh.blk, hF.owns s.sh.own (fun k' hk' hs => hs.elim (d5 k' hk') (d6 k' hk')), ?_, ?_, s.sh.ne⟩, ?_, ?_, s.ne, s.lb, s.li, s.lo, s.lc, s.ld, hN, fun j hj => ?_⟩
  · refine rowIs_congr ((rowIs_set2 s.sh.ri n (Kn.pl k)).setOther d3 _) fun j _ => ?_
    unfold plFn
    have : ∀ x, Kn.last X true (k + 1) x = if x = n then Kn.pl k else Kn.last X true k x := fun x => by
      rw [Kn.last_succ, ha]
      by_cases c : x = n
      · subst c; rw [if_pos ⟨hc, rfl⟩, if_pos rfl]
      · rw [if_neg (fun h => c (Int.ofNat_inj.1 h.2).symm), if_neg c]
    simp only [this]
  · refine hF.row (rowIs_congr s.sh.ro fun j _ => ?_) (fun h => h.elim (fun e => s.sh.ne e.symm) d4)
    unfold plFn
    have : ∀ x, Kn.last X false (k + 1) x = Kn.last X false k x := fun x => by
      rw [Kn.last_succ, if_neg (fun h => by rw [hc] at h; cases h.1)]
    simp only [this]
  · have h3 := ((s.rc.setOther (a := ⟨bi, n * 2, none⟩) d3.symm (.int .i64 ((Kn.pl k).1 : Nat))).setOther (a := ⟨bi, n * 2 + 1, none⟩) d3.symm (.int .i64 ((Kn.pl k).2 : Nat)))
    refine rowIs_congr (rowIs_setN h3 n (Kn.cnt X true k n + 1)) fun j _ => ?_
    unfold numFn
    have : Kn.cnt X true (k + 1) j = if j = n then Kn.cnt X true k n + 1 else Kn.cnt X true k j := by
      rw [Kn.cnt_succ, ha]
      by_cases c : j = n
      · subst c; rw [if_pos ⟨hc, rfl⟩, if_pos rfl]
      · rw [if_neg (fun h => c (Int.ofNat_inj.1 h.2).symm), if_neg c]; rfl
    rw [this]
  · refine hF.row (rowIs_congr s.rd fun j _ => ?_) (fun h => h.elim (rowIs_ne s.rd s.sh.ri (by decide)) (fun e => s.ne e.symm))
    unfold numFn
    rw [Kn.cnt_succ, if_neg (fun h => by rw [hc] at h; cases h.1)]; rfl
  · by_cases c : j = k
    · subst c; rw [ha]; unfold Kn.nArcs; omega
    · exact s.rng j (by omega)
theorem BSt.step_out {w0 w : World} {X : List Kn.Cr} {L : Int} {b : Nat} {v : Value} {bi bo ci co base k n : Nat} (s : BSt w0 w X L b v bi bo ci co base k)
    (hc : Kn.cm X (Kn.pl k) = false) (ha : Kn.at_ X (Kn.pl k) = (n : Int)) (h1 : 1 ≤ n) (h2 : n ≤ 2 * X.length) :
    BSt w0 (((w.setCell ⟨bo, n * 2, none⟩ (.int .i64 ((Kn.pl k).1 : Nat))).setCell ⟨bo, n * 2 + 1, none⟩ (.int .i64 ((Kn.pl k).2 : Nat))).setCell ⟨co, n, none⟩ (.int .i64 ((Kn.cnt X false k n + 1 : Nat) : Int))) X L b v bi bo ci co base (k + 1) := by
  have d1 : b ≠ bo := blk_ne s.sh.blk s.sh.ro (by decide); have d2 : b ≠ co := blk_ne s.sh.blk s.rd (by decide); have d3 : bo ≠ co := rowIs_ne s.sh.ro s.rd (by decide); have d4 : bi ≠ co := rowIs_ne s.sh.ri s.rd (by decide); have d5 := own_ne s.sh.own s.sh.ro (by decide); have d6 := own_ne s.sh.own s.rd (by decide)
  have hF : Fr (fun x => x = bo ∨ x = co) w (((w.setCell ⟨bo, n * 2, none⟩ (.int .i64 ((Kn.pl k).1 : Nat))).setCell ⟨bo, n * 2 + 1, none⟩ (.int .i64 ((Kn.pl k).2 : Nat))).setCell ⟨co, n, none⟩ (.int .i64 ((Kn.cnt X false k n + 1 : Nat) : Int))) :=
    (((Fr.refl _ w).setCell (.inl (.inl rfl)) _).setCell (.inl (.inl rfl)) _).setCell (.inl (.inr rfl)) _
  have hN : New w0 (((w.setCell ⟨bo, n * 2, none⟩ (.int .i64 ((Kn.pl k).1 : Nat))).setCell ⟨bo, n * 2 + 1, none⟩ (.int .i64 ((Kn.pl k).2 : Nat))).setCell ⟨co, n, none⟩ (.int .i64 ((Kn.cnt X false k n + 1 : Nat) : Int))) :=
    ((s.new.setCell (.inr s.lo) _).setCell (.inr s.lo) _).setCell (.inr s.ld) _
  refine ⟨⟨(hF.block b s.sh.lt (by omega)).trans s.sh.blk, hF.owns s.sh.own (fun k' hk' hs => hs.elim (d5 k' hk') (d6 k' hk')), ?_, ?_, s.sh.ne⟩, ?_, ?_, s.ne, s.lb, s.li, s.lo, s.lc, s.ld, hN, fun j hj => ?_⟩
  · refine hF.row (rowIs_congr s.sh.ri fun j _ => ?_) (fun h => h.elim (fun e => s.sh.ne e) d4)
    unfold plFn
    have : ∀ x, Kn.last X true (k + 1) x = Kn.last X true k x := fun x => by
      rw [Kn.last_succ, if_neg (fun h => by rw [hc] at h; cases h.1)]
    simp only [this]
  · refine rowIs_congr ((rowIs_set2 s.sh.ro n (Kn.pl k)).setOther d3 _) fun j _ => ?_
    unfold plFn
    have : ∀ x, Kn.last X false (k + 1) x = if x = n then Kn.pl k else Kn.last X false k x := fun x => by
      rw [Kn.last_succ, ha]
      by_cases c : x = n
      · subst c; rw [if_pos ⟨hc, rfl⟩, if_pos rfl]
      · rw [if_neg (fun h => c (Int.ofNat_inj.1 h.2).symm), if_neg c]
    simp only [this]
  · refine hF.row (rowIs_congr s.rc fun j _ => ?_) (fun h => h.elim (rowIs_ne s.rc s.sh.ro (by decide)) (fun e => s.ne e))
    unfold numFn
    rw [Kn.cnt_succ, if_neg (fun h => by rw [hc] at h; cases h.1)]; rfl
  · have h3 := ((s.rd.setOther (a := ⟨bo, n * 2, none⟩) d3.symm (.int .i64 ((Kn.pl k).1 : Nat))).setOther (a := ⟨bo, n * 2 + 1, none⟩) d3.symm (.int .i64 ((Kn.pl k).2 : Nat)))
    refine rowIs_congr (rowIs_setN h3 n (Kn.cnt X false k n + 1)) fun j _ => ?_
    unfold numFn
    have : Kn.cnt X false (k + 1) j = if j = n then Kn.cnt X false k n + 1 else Kn.cnt X false k j := by
      rw [Kn.cnt_succ, ha]
      by_cases c : j = n
      · subst c; rw [if_pos ⟨hc, rfl⟩, if_pos rfl]
      · rw [if_neg (fun h => c (Int.ofNat_inj.1 h.2).symm), if_neg c]; rfl
    rw [this]
  · by_cases c : j = k
    · subst c; rw [ha]; unfold Kn.nArcs; omega
    · exact s.rng j (by omega)
theorem BSt.facts_in {w0 w : World} {X : List Kn.Cr} {L : Int} {b : Nat} {v : Value} {bi bo ci co base k n : Nat} (s : BSt w0 w X L b v bi bo ci co base k) (h2 : n ≤ 2 * X.length) :
    w.cell? ⟨b, 2, none⟩ = some (.slice (some ⟨bi, 0, none⟩) (mArcs X) (mArcs X)) ∧
    w.cell? ⟨bi, n * 2, none⟩ = some (plFn (Kn.last X true k) (n * 2)) ∧ w.frozen? ⟨bi, n * 2, none⟩ = false ∧
    (∀ Y, (w.setCell ⟨bi, n * 2, none⟩ Y).cell? ⟨bi, n * 2 + 1, none⟩ = some (plFn (Kn.last X true k) (n * 2 + 1))) ∧ (∀ Y, (w.setCell ⟨bi, n * 2, none⟩ Y).frozen? ⟨bi, n * 2 + 1, none⟩ = false) ∧
    (∀ Y Z, ((w.setCell ⟨bi, n * 2, none⟩ Y).setCell ⟨bi, n * 2 + 1, none⟩ Z).cell? ⟨ci, n, none⟩ = some (.int .i64 (Kn.cnt X true k n : Nat))) ∧ (∀ Y Z, ((w.setCell ⟨bi, n * 2, none⟩ Y).setCell ⟨bi, n * 2 + 1, none⟩ Z).frozen? ⟨ci, n, none⟩ = false) := by
  have d3 : ci ≠ bi := rowIs_ne s.rc s.sh.ri (by decide)
  refine ⟨s.sh.c2.2.2.1, s.sh.ri.cell (by unfold mArcs; omega), s.sh.ri.frozen _, fun Y => ?_, fun Y => (s.sh.ri.set _ Y).frozen _, fun Y Z => ?_, fun Y Z => ((s.rc.setOther (a := ⟨bi, n * 2, none⟩) d3 Y).setOther (a := ⟨bi, n * 2 + 1, none⟩) d3 Z).frozen _⟩
  · have := (s.sh.ri.set (n * 2) Y).cell (i := n * 2 + 1) (by unfold mArcs; omega)
    rwa [if_neg (by omega)] at this
  · exact ((s.rc.setOther (a := ⟨bi, n * 2, none⟩) d3 Y).setOther (a := ⟨bi, n * 2 + 1, none⟩) d3 Z).cell (by unfold mArcs; omega)
theorem BSt.facts_out {w0 w : World} {X : List Kn.Cr} {L : Int} {b : Nat} {v : Value} {bi bo ci co base k n : Nat} (s : BSt w0 w X L b v bi bo ci co base k) (h2 : n ≤ 2 * X.length) :
    w.cell? ⟨b, 3, none⟩ = some (.slice (some ⟨bo, 0, none⟩) (mArcs X) (mArcs X)) ∧
    w.cell? ⟨bo, n * 2, none⟩ = some (plFn (Kn.last X false k) (n * 2)) ∧ w.frozen? ⟨bo, n * 2, none⟩ = false ∧
    (∀ Y, (w.setCell ⟨bo, n * 2, none⟩ Y).cell? ⟨bo, n * 2 + 1, none⟩ = some (plFn (Kn.last X false k) (n * 2 + 1))) ∧ (∀ Y, (w.setCell ⟨bo, n * 2, none⟩ Y).frozen? ⟨bo, n * 2 + 1, none⟩ = false) ∧
    (∀ Y Z, ((w.setCell ⟨bo, n * 2, none⟩ Y).setCell ⟨bo, n * 2 + 1, none⟩ Z).cell? ⟨co, n, none⟩ = some (.int .i64 (Kn.cnt X false k n : Nat))) ∧ (∀ Y Z, ((w.setCell ⟨bo, n * 2, none⟩ Y).setCell ⟨bo, n * 2 + 1, none⟩ Z).frozen? ⟨co, n, none⟩ = false) := by
  have d3 : co ≠ bo := rowIs_ne s.rd s.sh.ro (by decide)
  refine ⟨s.sh.c2.2.2.2, s.sh.ro.cell (by unfold mArcs; omega), s.sh.ro.frozen _, fun Y => ?_, fun Y => (s.sh.ro.set _ Y).frozen _, fun Y Z => ?_, fun Y Z => ((s.rd.setOther (a := ⟨bo, n * 2, none⟩) d3 Y).setOther (a := ⟨bo, n * 2 + 1, none⟩) d3 Z).frozen _⟩
  · have := (s.sh.ro.set (n * 2) Y).cell (i := n * 2 + 1) (by unfold mArcs; omega)
    rwa [if_neg (by omega)] at this
  · exact ((s.rd.setOther (a := ⟨bo, n * 2, none⟩) d3 Y).setOther (a := ⟨bo, n * 2 + 1, none⟩) d3 Z).cell (by unfold mArcs; omega)
end Go.Proofs.YtgjmjbgicfkojaaGreat
