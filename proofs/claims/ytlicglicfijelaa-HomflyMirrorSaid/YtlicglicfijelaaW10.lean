/- Words for rows of the call's own, and for slices of slices. -/
import Derived.Test.YtlicglicfijelaaW7
import Derived.RangeFuncNested
import Derived.RangeFuncBound
import Derived.RangeFuncCalls
import Derived.RangeFuncLeaves
import Derived.Shelf.Abstract
import Derived.Shelf.RegionOpen
import Derived.OwnWalkIn
import Derived.TacticsInMore
import Derived.LoopNIn
import Derived.LoopIn
import Derived.Maps.OwnIn
/- Words for rows of the call's own, and for slices of slices. -/
namespace Go.Proofs.Ytlicglicfijelaa
open Go.RowKit

theorem Try.info4 : (Try.prog.info? 4).map (fun i => (i.zero, i.size, i.bytes)) = some (some (.bool false), 1, 1) := by kernel_rfl
theorem Try.info80 : (Try.prog.info? 80).map (fun i => (i.zero, i.size, i.bytes)) = some (some (.slice none 0 0), 1, 24) := by kernel_rfl
theorem Try.info104 : (Try.prog.info? 104).map (fun i => (i.zero, i.size, i.bytes)) = some (some (.slice none 0 0), 1, 24) := by kernel_rfl
/- values and what they stand for, one by one -/
structure Els {α : Type} (R : Value → α → Prop) (vs : List Value) (l : List α) : Prop where
  len : vs.length = l.length
  at_ : ∀ i (h : i < vs.length) (h' : i < l.length), R vs[i] l[i]
section
variable {α : Type} {R R' : Value → α → Prop} {vs : List Value} {l : List α}
theorem Els.nil : Els R [] [] := ⟨rfl, fun i h => by simp at h⟩
theorem Els.mono (h : Els R vs l) (hR : ∀ v x, R v x → R' v x) : Els R' vs l := ⟨h.len, fun i h1 h2 => hR _ _ (h.at_ i h1 h2)⟩
theorem Els.snoc (h : Els R vs l) {v : Value} {x : α} (hx : R v x) : Els R (vs ++ [v]) (l ++ [x]) := by
  refine ⟨by rw [List.length_append, List.length_append, h.len]; rfl, fun i h1 h2 => ?_⟩
  by_cases c : i < l.length
  · rw [List.getElem_append_left (by rw [h.len]; exact c), List.getElem_append_left c]
    exact h.at_ i _ c
  · rw [List.length_append, List.length_singleton] at h2
    have e : i = l.length := by omega
    subst e
    rw [List.getElem_append_right (by rw [h.len]; exact Nat.le_refl _), List.getElem_append_right (Nat.le_refl _)]
    simp only [h.len, Nat.sub_self, List.getElem_cons_zero]
    exact hx
end
def nums (l : List Nat) : List Value := l.map fun n => .int .i64 (n : Nat)
theorem nums_length (l : List Nat) : (nums l).length = l.length := by simp [nums]
theorem nums_snoc (l : List Nat) (x : Nat) : nums (l ++ [x]) = nums l ++ [.int .i64 (x : Nat)] := by simp [nums]
def OwnN (w : World) (v : Value) (l : List Nat) : Prop := w.ownsRow 0 3 1 v l.length (nums l)
/- a row of the call's own whose elements, one cell each, stand for things -/
def Rows {α : Type} (R : World → Value → α → Prop) (base e : Nat) (w : World) (v : Value) (ll : List α) : Prop := ∃ vs, w.ownsRow base e 1 v vs.length vs ∧ Els (R w) vs ll
theorem Rows.nil {α : Type} {R : World → Value → α → Prop} {base e : Nat} {w : World} : Rows R base e w (.slice none 0 0) [] := ⟨[], ⟨rfl, .inl ⟨rfl, rfl⟩⟩, Els.nil⟩
/- rows of different elements lie apart -/
theorem owns_ne {b b' e e' z z' n n' : Nat} {w : World} {v v' : Value} {xs ys : List Value} (h : w.ownsRow b e z v n xs) (h' : w.ownsRow b' e' z' v' n' ys) (hne : e ≠ e') : ∀ k, v.ownBlock = some k → some k ≠ v'.ownBlock := by
  intro k hk
  rcases h.2 with ⟨rfl, _⟩ | ⟨g, cap, cur, rfl, _, hgg, _⟩
  · cases hk
  · rcases h'.2 with ⟨rfl, _⟩ | ⟨g', cap', cur', rfl, _, hgg', _⟩
    · intro z; cases z
    · intro z
      cases hk
      cases z
      rw [hgg] at hgg'
      injection hgg' with hgg'
      injection hgg' with _ he
      exact hne he
theorem owns_kept {b e z n : Nat} {w w' : World} {row : Option Nat} {v : Value} {ys : List Value} (h : w.ownsRow b e z v n ys) (hg : w.grownBy w' row) (hne : ∀ k, v.ownBlock = some k → some k ≠ row) : w'.ownsRow b e z v n ys := by
  refine ⟨h.1, ?_⟩
  rcases h.2 with hn | ⟨g, cap, cur, rfl, hb, hgg, r⟩
  · exact .inl hn
  · exact .inr ⟨g, cap, cur, rfl, hb, (hg.block g (Array.getElem?_eq_some_iff.1 hgg).1 (hne g rfl)).trans hgg, r⟩
theorem own0 {base e z n : Nat} {w : World} {v : Value} {ys : List Value} (h : w.ownsRow base e z v n ys) : w.ownsRow 0 e z v n ys := own_base h (Nat.zero_le _)
/- the slice's form, and what its elements read -/
theorem own_shape {base e n : Nat} {w : World} {v : Value} {ys : List Value} (h : w.ownsRow base e 1 v n ys) : ∃ a c, v = .slice a n c ∧ n ≤ c ∧ (0 < n → ∃ g, a = some ⟨g, 0, none⟩ ∧ base ≤ g ∧ ∀ i (hi : i < ys.length), w.cell? ⟨g, i, none⟩ = some ys[i]) := by
  rcases h.2 with ⟨rfl, rfl⟩ | ⟨g, cap, cur, rfl, hb, hg, h1, h2, h3, h4⟩
  · exact ⟨none, 0, rfl, Nat.le_refl _, fun h => by omega⟩
  · refine ⟨_, cap, rfl, h1, fun _ => ⟨g, rfl, hb, fun i hi => ?_⟩⟩
    have := World.ownsRow.cells h (g := g) rfl i ys[i] (List.getElem?_eq_getElem hi)
    rw [addr_add, Nat.zero_add] at this
    exact this
theorem one_sl (a : Option Addr) (n c : Nat) : ∀ u ∈ [Value.slice a n c], u.oneCell' = true := by
  intro u hu; rw [List.mem_singleton] at hu; subst hu; rfl
theorem one_int (x : Int) : ∀ u ∈ [Value.int .i64 x], u.oneCell' = true := by
  intro u hu; rw [List.mem_singleton] at hu; subst hu; rfl
/- what is behind an append to a row of other elements -/
theorem own_app {b b' e e' z z' n n' : Nat} {w w' : World} {o : Obj} {v v' : Value} {xs ys : List Value} (h : w.ownsRow b e z v n xs) (h' : w.ownsRow b' e' z' v' n' ys) (hne : e ≠ e') (hg : (w.alloc o).grownBy w' v'.ownBlock) : w'.ownsRow b e z v n xs :=
  owns_kept (World.ownsRow.alloc h o) hg (owns_ne h h' hne)
theorem size_set (w : World) (a : Addr) (v : Value) : (w.setCell a v).heap.size = w.heap.size := by simp [World.setCell]
theorem cell_one' {w : World} {v : Value} {t : TypeId} {B : Nat} (hB : B = w.heap.size) : ∀ (j : Nat) (u : Value), [v][j]? = some u → (w.alloc (.cells #[v] t)).cell? ((⟨B, 0, none⟩ : Addr).add j) = some u := by
  subst hB; exact cell_one_new _ _ _
/- marks: a row of Booleans -/
def boolFn (p : Nat → Bool) (j : Nat) : Value := .bool (p j)
theorem marks_made (w : World) (m : Nat) : (w.alloc (.cells (madeCells #[.bool false] m) 4)).rowIs w.heap.size 4 m (boolFn fun j => decide (j ∈ ([] : List Nat))) :=
  rowIs_congr (World.rowIs_made w (.bool false) m 4) fun j _ => by unfold boolFn; simp
theorem marks_set {w : World} {b m : Nat} {seen : List Nat} (h : w.rowIs b 4 m (boolFn fun j => decide (j ∈ seen))) (x : Nat) : (w.setCell ⟨b, x, none⟩ (.bool true)).rowIs b 4 m (boolFn fun j => decide (j ∈ seen ++ [x])) := by
  refine rowIs_congr (h.set _ _) fun j _ => ?_
  unfold boolFn
  by_cases c : j = x
  · subst c; simp
  · simp [c]
theorem own_lb {b e z n : Nat} {w : World} {v : Value} {xs : List Value} (h : w.ownsRow b e z v n xs) : ∀ k, v.ownBlock = some k → b ≤ k := by
  intro k hk
  rcases h.2 with ⟨rfl, _⟩ | ⟨g, cap, cur, rfl, hb, _, _⟩
  · cases hk
  · cases hk; exact hb
/- a row of marks behind an append -/
theorem marks_app {b e z n : Nat} {w w' : World} {o : Obj} {v : Value} {xs : List Value} {sb m : Nat} {f : Nat → Value} (h : w.rowIs sb 4 m f) (h' : w.ownsRow b e z v n xs) (hg : (w.alloc o).grownBy w' v.ownBlock) (he : e ≠ 4 := by decide) : w'.rowIs sb 4 m f :=
  (h.alloc o).of_block (hg.block sb (h.alloc o).lt fun hk => own_ne h' h he sb hk.symm rfl)
def lenV : Value → Nat
  | .slice _ n _ => n
  | _ => 0
end Go.Proofs.Ytlicglicfijelaa

/- Walks: Rings, Strands. -/
namespace Go.Proofs.Ytlicglicfijelaa
open Go.RowKit

structure RInv (w wr : World) (sb : Nat) (X : List Kn.Cr) (k : Nat) (seen : List Nat) (rs : List (List Nat)) (o : Value) : Prop where
  new : New w wr
  lb : w.heap.size ≤ sb
  row : wr.rowIs sb 4 (Kn.nArcs X + 1) (boolFn fun j => decide (j ∈ seen))
  out : Rows OwnN w.heap.size 80 wr o rs
  nd : seen.Nodup
  sub : ∀ x ∈ seen, x ∈ Kn.arcs X
  eq : rs ++ Kn.rings (Kn.nextA X) (Kn.nArcs X + 1) seen ((Kn.arcs X).drop (k - 1)) = Kn.strandsL X
structure QInv (wo wr : World) (sb : Nat) (X : List Kn.Cr) (k : Nat) (seen r : List Nat) (x : Nat) (s : Value) : Prop where
  fr : Fr (fun j => j = sb) wo wr
  row : wr.rowIs sb 4 (Kn.nArcs X + 1) (boolFn fun j => decide (j ∈ seen ++ r))
  ring : wr.ownsRow wo.heap.size 3 1 s r.length (nums r)
  nd : (seen ++ r).Nodup
  sub : ∀ x ∈ seen ++ r, x ∈ Kn.arcs X
  arc : Kn.isArc X x
  eq : ∃ f, f + r.length = Kn.nArcs X + 1 ∧ r ++ Kn.ring (Kn.nextA X) f (seen ++ r) x = Kn.ring (Kn.nextA X) (Kn.nArcs X + 1) seen k
theorem arcs_drop {X : List Kn.Cr} {k : Nat} (h1 : 1 ≤ k) (h2 : k ≤ Kn.nArcs X) : (Kn.arcs X).drop (k - 1) = k :: (Kn.arcs X).drop k := by
  have hl : k - 1 < (Kn.arcs X).length := by rw [Kn.arcs_length]; omega
  rw [List.drop_eq_getElem_cons hl, show k - 1 + 1 = k by omega]
  congr 1
  simp [Kn.arcs]; omega
/- a call that hands back lists of numbers in new memory -/
def GaveRows (ll : List (List Nat)) (w : World) (e : Ending) (w' : World) : Prop := ∃ v, e = .returned v ∧ Rows OwnN w.heap.size 80 w' v ll ∧ New w w'
theorem QInv.snoc {wo wr : World} {sb : Nat} {X : List Kn.Cr} {k : Nat} {seen r : List Nat} {x : Nat} {s : Value} (h : QInv wo wr sb X k seen r x s) (hx : x ∉ seen ++ r) :
    (seen ++ (r ++ [x])).Nodup ∧ (∀ y ∈ seen ++ (r ++ [x]), y ∈ Kn.arcs X) ∧ r.length + 1 ≤ Kn.nArcs X ∧
    ∃ f, f + (r ++ [x]).length = Kn.nArcs X + 1 ∧ (r ++ [x]) ++ Kn.ring (Kn.nextA X) f (seen ++ (r ++ [x])) (Kn.nextA X x) = Kn.ring (Kn.nextA X) (Kn.nArcs X + 1) seen k := by
  have h1 := Kn.nodup_snoc h.nd hx
  have h2 : ∀ y ∈ seen ++ (r ++ [x]), y ∈ Kn.arcs X := fun y hy => by
    rw [← List.append_assoc, List.mem_append, List.mem_singleton] at hy
    rcases hy with hy | rfl
    · exact h.sub y hy
    · exact Kn.mem_arcs.2 h.arc
  rw [List.append_assoc] at h1
  have h3 := Kn.nodup_le h1 h2
  rw [Kn.arcs_length] at h3
  simp only [List.length_append, List.length_singleton] at h3
  refine ⟨h1, h2, by omega, ?_⟩
  obtain ⟨f, hf, he⟩ := h.eq
  obtain ⟨f', rfl⟩ : ∃ f', f = f' + 1 := ⟨f - 1, by omega⟩
  refine ⟨f', by simp; omega, ?_⟩
  rw [Kn.ring_new _ hx, List.append_assoc] at he
  rw [List.append_assoc]
  exact he
theorem QInv.done {wo wr : World} {sb : Nat} {X : List Kn.Cr} {k : Nat} {seen r : List Nat} {x : Nat} {s : Value} (h : QInv wo wr sb X k seen r x s) (hx : x ∈ seen ++ r) : r = Kn.ring (Kn.nextA X) (Kn.nArcs X + 1) seen k := by
  obtain ⟨f, _, he⟩ := h.eq
  rw [Kn.ring_seen _ hx, List.append_nil] at he
  exact he

theorem RInv.few {w wr : World} {sb : Nat} {X : List Kn.Cr} {k m : Nat} {seen : List Nat} {rs : List (List Nat)} {o : Value} (h : RInv w wr sb X k seen rs o) (hm : m = Kn.nArcs X) (h32 : m ≤ 32) : rs.length + 1 ≤ 64 := by
  have h1 := Kn.rings_len (Kn.nextA X) (Kn.nArcs X + 1) (Kn.arcs X) []
  have h2 := congrArg List.length h.eq
  unfold Kn.strandsL at h2
  rw [List.length_append] at h2
  rw [Kn.arcs_length] at h1
  omega
theorem mayB_ok {X : List Kn.Cr} {L : Int} (h : Kn.mayB X L = true) : Kn.Ok X ∧ X.length ≤ 16 := by
  unfold Kn.mayB at h
  simp only [Bool.and_eq_true, decide_eq_true_eq] at h
  exact ⟨(Kn.ok_iff X).1 h.2, h.1.1.1.1⟩
theorem arcsN' (b m : Nat) (X : List Kn.Cr) (L : Int) (w : World) (h : ShAt w b X L) (hn : X.length ≤ 16) (hm : m = Kn.nArcs X) :
    Calls Try.prog 21 #[.pointer (some ⟨b, 0, none⟩)] w fun e w' => e = .returned (.int .i64 (m : Nat)) ∧ w = w' := by
  subst hm; exact arcsN_any b X L w h hn

end Go.Proofs.Ytlicglicfijelaa

/- Walks: Darts and its iterator. -/
namespace Go.Proofs.Ytlicglicfijelaa
open Go.RowKit Go.Shelf
attribute [local go_sem] Oper.semAt_some

/- darts of a diagram -/
abbrev DX (X : List Kn.Cr) := { d : Kn.Dt // Kn.isArc X d.1 }
abbrev encD {X : List Kn.Cr} (x : DX X) : Array Value := #[.agg #[.int .i64 (x.1.1 : Nat), .bool x.1.2]]
/- what a round keeps for the iterator: its own box, and the shape's first cell -/
def KpB (Bn b : Nat) (W W' : World) : Prop := (∀ v, W.cell? ⟨Bn, 0, none⟩ = some v → W'.cell? ⟨Bn, 0, none⟩ = some v) ∧ (∀ v, W.cell? ⟨b, 0, none⟩ = some v → W'.cell? ⟨b, 0, none⟩ = some v)
theorem kpB_t {Bn b : Nat} {A B C : World} (h : KpB Bn b A B) (k : KpB Bn b B C) : KpB Bn b A C := ⟨fun v x => k.1 v (h.1 v x), fun v x => k.2 v (h.2 v x)⟩
theorem kpB_b {Bn b : Nat} (W : World) (l : Nat) (o o' : Obj) (h : W.heap[l]? = some o) (ho : o.isCells = false) : KpB Bn b W (W.putObj l o') :=
  ⟨fun _ hv => cell_kept hv (grownBy_putObj' W l o') (fun r e => by cases e; exact ⟨o, h, ho⟩), fun _ hv => cell_kept hv (grownBy_putObj' W l o') (fun r e => by cases e; exact ⟨o, h, ho⟩)⟩
theorem kpB_fr {Bn b : Nat} {S : Nat → Prop} {W W' : World} (h : Fr S W W') (h1 : ¬ S Bn) (h2 : ¬ S b) : KpB Bn b W W' := ⟨fun _ hv => h.cell hv h1, fun _ hv => h.cell hv h2⟩
theorem wideD {n : Nat} : Fence.wide.depth.isSome = true → 1 ≤ n := fun h => by cases h
theorem arcsC (b m n cc : Nat) (a : Option Addr) (w : World) (h : w.cell? ⟨b, 0, none⟩ = some (.slice a n cc)) (hn : n ≤ 16) (hm : m = 2 * n) :
    Calls Try.prog 21 #[.pointer (some ⟨b, 0, none⟩)] w fun e w' => e = .returned (.int .i64 (m : Nat)) ∧ w = w' := by
  have HM := Lib.hid hm
  clear hm
  go_enter Try.func21, Try.ntmps21
  go_wp2
  go_ret
  exact ⟨ret_int (by rw [HM.out]; omega), rfl⟩
theorem dart_at (k j : Nat) (hk : 1 ≤ k) (hj : j < 2) : Kn.dart (2 * (k - 1) + j) = (k, decide (j = 1)) := by
  unfold Kn.dart
  rw [show (2 * (k - 1) + j) / 2 + 1 = k by omega, show (2 * (k - 1) + j) % 2 = j by omega]
theorem darts_take (X : List Kn.Cr) {q : Nat} (h : q < 4 * X.length) : (Kn.darts X).take (q + 1) = (Kn.darts X).take q ++ [Kn.dart q] := by
  rw [List.take_succ_eq_append_getElem (by rw [Kn.darts_length]; exact h)]
  simp [Kn.darts]

set_option maxRecDepth 100000 in
set_option maxHeartbeats 4000000 in
theorem darts1_in (nn l Bn b n cc : Nat) (a : Option Addr) (X : List Kn.Cr) (J Jx : List (DX X) → World → Prop)
    (hY : ∀ pre x W, J pre W → pre.length < 4 * X.length → YieldAt Fence.wide (nn - 1) Try.prog l (encD x) W fun e W' => (e = .returned (.bool true) ∧ J (pre ++ [x]) W' ∧ KpB Bn b W W') ∨ (e = .returned (.bool false) ∧ Jx (pre ++ [x]) W'))
    (W : World) (hBn : W.cell? ⟨Bn, 0, none⟩ = some (.pointer (some ⟨b, 0, none⟩))) (hc : W.cell? ⟨b, 0, none⟩ = some (.slice a n cc)) (hn : n = X.length) (hl : n ≤ 16) (h0 : J [] W) :
    CallsIn Fence.wide nn Try.prog 75 #[.func (.yield l) #[] #[], .pointer (some ⟨Bn, 0, none⟩)] W fun e W' => (∃ v, e = .returned v) ∧ ((∃ ys : List (DX X), ys.map (·.1) = Kn.darts X ∧ J ys W') ∨ (∃ pre, True ∧ Jx pre W')) := by
  have hi0 : ∀ w, (Instr.index 138 (.agg #[.bool false, .bool true]) (.int .i64 0)).run Try.prog w = .ok (.bool false) w := fun _ => by kernel_rfl
  have hi1 : ∀ w, (Instr.index 138 (.agg #[.bool false, .bool true]) (.int .i64 1)).run Try.prog w = .ok (.bool true) w := fun _ => by kernel_rfl
  obtain ⟨m, hm⟩ : ∃ m, m = 2 * n := ⟨_, rfl⟩
  have hm32 : m ≤ 32 := by omega
  have HM := Lib.hid hm
  have HN := Lib.hid hn
  have HY := Lib.hid hY
  clear hm hn hY
  refine callsIn_of_wp Try.func75 rfl trivial ?_ rfl
  simp only [Try.ntmps75, List.size_toArray, List.length_cons, List.length_nil, Nat.reduceAdd, Nat.reduceSub, Array.replicate_succ, Array.replicate_zero, List.push_toArray, List.append_toArray, List.nil_append, List.cons_append]
  gi_wp2
  gi_loopw [3] (fun p wr => ∃ (k : Nat) (pre : List (DX X)), 1 ≤ k ∧ k ≤ m + 1 ∧ p = .int .i64 k ∧ Hid (pre.map (·.1) = (Kn.darts X).take (2 * (k - 1))) ∧ Hid (J pre wr) ∧ wr.cell? ⟨Bn, 0, none⟩ = some (.pointer (some ⟨b, 0, none⟩)) ∧ wr.cell? ⟨b, 0, none⟩ = some (.slice a n cc)) (fun p _ => (m + 1) - (intOf p).toNat)
  case atStart => exact ⟨1, [], by omega, by omega, rfl, Lib.hid (by simp), Lib.hid h0, hBn, hc⟩
  case round =>
    obtain ⟨k, pre, hk1, hk2, rfl, HP, HJ, c1, c2⟩ := hrel
    by_cases hkm : k ≤ m
    · have k2 : (k : Int) ≤ (m : Int) := by omega
      gi_wp2_with (refine ⟨trivial, wideD, ?_⟩; gi_at_call 21; refine (callsIn_wide.2 (arcsC b m n cc a _ c2 hl HM.out)).mono ?_; rintro e w' ⟨rfl, rfl⟩)
      gi_loopw [13] (fun p wr => ∃ (j : Nat) (pre : List (DX X)), j ≤ 2 ∧ p = .int .i64 j ∧ Hid (pre.map (·.1) = (Kn.darts X).take (2 * (k - 1) + j)) ∧ Hid (J pre wr) ∧ wr.cell? ⟨Bn, 0, none⟩ = some (.pointer (some ⟨b, 0, none⟩)) ∧ wr.cell? ⟨b, 0, none⟩ = some (.slice a n cc)) (fun p _ => 2 - (intOf p).toNat)
      case atStart => exact ⟨0, pre, by omega, rfl, HP, HJ, c1, c2⟩
      case round =>
        obtain ⟨j, pre, hj, rfl, HP, HJ, c1, c2⟩ := hrel
        by_cases hj2 : j < 2
        · have hlt : 2 * (k - 1) + j < 4 * X.length := by have := HM.out; have := HN.out; omega
          have hpl : pre.length < 4 * X.length := by
            have := congrArg List.length HP.out
            rw [List.length_map, List.length_take, Kn.darts_length] at this; omega
          have hka : Kn.isArc X k := ⟨hk1, by unfold Kn.nArcs; have := HM.out; have := HN.out; omega⟩
          have hext := darts_take X hlt
          rw [dart_at k j hk1 hj2, ← HP.out] at hext
          have HEXT := Lib.hid hext
          clear hext
          rcases (show j = 0 ∨ j = 1 by omega) with rfl | rfl
          · obtain ⟨fn, tmps, assign, body, hy, hR⟩ := HY.out pre ⟨(k, false), hka⟩ wr HJ.out hpl
            simp only [encD] at hy
            gi_wp2
            refine ⟨wideD, hR.mono ?_⟩
            rintro e W3 (⟨rfl, hJ3, hk3⟩ | ⟨rfl, hJx3⟩)
            · have d1 : W3.cell? ⟨Bn, 0, none⟩ = some (.pointer (some ⟨b, 0, none⟩)) := hk3.1 _ c1
              have d2 : W3.cell? ⟨b, 0, none⟩ = some (.slice a n cc) := hk3.2 _ c2
              have HJ3 := Lib.hid hJ3
              clear hJ3 hk3 hy hR
              gi_wp2
              go_roundw
              case rel => exact ⟨1, pre ++ [⟨(k, false), hka⟩], by omega, by go_num, Lib.hid (by rw [List.map_append]; exact HEXT.out.symm), HJ3, d1, d2⟩
              case measure => simp [intOf]
            · gi_wp2
              refine bodyPost_ret (results_none rfl _ _ _) rfl ?_
              exact ⟨⟨_, rfl⟩, .inr ⟨pre ++ [⟨(k, false), hka⟩], trivial, hJx3⟩⟩
          · obtain ⟨fn, tmps, assign, body, hy, hR⟩ := HY.out pre ⟨(k, true), hka⟩ wr HJ.out hpl
            simp only [encD] at hy
            gi_wp2
            refine ⟨wideD, hR.mono ?_⟩
            rintro e W3 (⟨rfl, hJ3, hk3⟩ | ⟨rfl, hJx3⟩)
            · have d1 : W3.cell? ⟨Bn, 0, none⟩ = some (.pointer (some ⟨b, 0, none⟩)) := hk3.1 _ c1
              have d2 : W3.cell? ⟨b, 0, none⟩ = some (.slice a n cc) := hk3.2 _ c2
              have HJ3 := Lib.hid hJ3
              clear hJ3 hk3 hy hR
              gi_wp2
              go_roundw
              case rel => exact ⟨2, pre ++ [⟨(k, true), hka⟩], by omega, by go_num, Lib.hid (by rw [List.map_append]; exact HEXT.out.symm), HJ3, d1, d2⟩
              case measure => simp [intOf]
            · gi_wp2
              refine bodyPost_ret (results_none rfl _ _ _) rfl ?_
              exact ⟨⟨_, rfl⟩, .inr ⟨pre ++ [⟨(k, true), hka⟩], trivial, hJx3⟩⟩
        · obtain rfl : j = 2 := by omega
          gi_wp2
          go_roundw
          case rel => exact ⟨k + 1, pre, by omega, by omega, by go_num, by rw [show 2 * (k + 1 - 1) = 2 * (k - 1) + 2 by omega]; exact HP, HJ, c1, c2⟩
          case measure => simp [intOf]; omega
    · obtain rfl : k = m + 1 := by omega
      gi_wp2_with (refine ⟨trivial, wideD, ?_⟩; gi_at_call 21; refine (callsIn_wide.2 (arcsC b m n cc a _ c2 hl HM.out)).mono ?_; rintro e w' ⟨rfl, rfl⟩)
      go_end0
      refine ⟨⟨_, rfl⟩, .inl ⟨pre, ?_, HJ.out⟩⟩
      rw [HP.out, List.take_of_length_le]
      rw [Kn.darts_length]; have := HM.out; have := HN.out; omega

set_option maxHeartbeats 1000000 in
theorem darts_in (nn b : Nat) (w : World) :
    CallsIn Fence.wide nn Try.prog 66 #[.pointer (some ⟨b, 0, none⟩)] w fun e w' => e = .returned (.func (.func 75) #[] #[.pointer (some ⟨w.heap.size, 0, none⟩)]) ∧ w' = w.alloc (.cells #[.pointer (some ⟨b, 0, none⟩)] 39) := by
  refine callsIn_of_wp Try.func66 rfl trivial ?_ rfl
  simp only [Try.ntmps66, List.size_toArray, List.length_cons, List.length_nil, Nat.reduceAdd, Nat.reduceSub, Array.replicate_succ, Array.replicate_zero, List.push_toArray, List.append_toArray, List.nil_append, List.cons_append]
  gi_wp2
  go_ret
  exact ⟨rfl, rfl⟩
/- what Darts hands back tells each dart once, in order -/
theorem darts_stops (nn Bn b n cc : Nat) (a : Option Addr) (X : List Kn.Cr) (w : World) (hB : Bn < w.heap.size) (hBn : w.cell? ⟨Bn, 0, none⟩ = some (.pointer (some ⟨b, 0, none⟩))) (hc : w.cell? ⟨b, 0, none⟩ = some (.slice a n cc)) (hn : n = X.length) (hl : n ≤ 16) :
    SeqStopsK Fence.wide nn Try.prog 75 #[.pointer (some ⟨Bn, 0, none⟩)] (encD (X := X)) (KpB Bn b) (fun ys => ys.map (·.1) = Kn.darts X) (fun _ => True) (4 * X.length) w := fun l J Jx W hW _ _ hY h0 =>
  darts1_in nn l Bn b n cc a X J Jx hY W ((hW.cell (p := ⟨Bn, 0, none⟩) hB).trans hBn) ((hW.cell (p := ⟨b, 0, none⟩) (World.block_lt_of_cell? w _ hc)).trans hc) hn hl h0
end Go.Proofs.Ytlicglicfijelaa
