/- Words: numbers in memory; a slice of terms that a call makes. -/
import Derived.Test.YtdelekkbkpldjaaDoorP1
namespace Go.Proofs.YtdelekkbkpldjaaDoor
open Go.RowKit

def IntsAt (w : World) (a : Option Addr) (xs : List Int) : Prop :=
  xs = [] ∨ ∃ b o, a = some ⟨b, o, none⟩ ∧ ∀ i, i < xs.length → w.cell? ⟨b, o + i, none⟩ = some (.int .i64 (xs.getD i 0))
theorem New.ints {w w' : World} (h : New w w') {a : Option Addr} {xs : List Int} (hi : IntsAt w a xs) : IntsAt w' a xs := by
  rcases hi with rfl | ⟨b, o, rfl, hc⟩
  · exact .inl rfl
  · exact .inr ⟨b, o, rfl, fun i hi => h.cell (hc i hi) (fun x => x)⟩
theorem IntsAt.at {w : World} {a : Option Addr} {xs : List Int} (h : IntsAt w a xs) {k : Nat} (hk : k < xs.length) :
    ∃ b o, a = some ⟨b, o, none⟩ ∧ w.cell? ⟨b, o + k, none⟩ = some (.int .i64 (xs.getD k 0)) := by
  rcases h with rfl | ⟨b, o, rfl, h⟩
  · simp at hk
  · exact ⟨b, o, rfl, h k hk⟩
def Raw (xs : List Int) : Prop := ∀ x ∈ xs, -9223372036854775808 ≤ x ∧ x ≤ 9223372036854775807
theorem Raw.get {xs : List Int} (h : Raw xs) (k : Nat) : -9223372036854775808 ≤ xs.getD k 0 ∧ xs.getD k 0 ≤ 9223372036854775807 := by
  rw [List.getD_eq_getElem?_getD]
  cases e : xs[k]? with
  | none => simp
  | some x => exact h x (List.mem_of_getElem? e)

/- the cells of terms; a row of the call's own that holds them -/
def cellsT (l : List Pl.T) : List Value := l.flatMap fun t => [.int .i64 t.1, .int .i64 t.2]
theorem cellsT_app (l m : List Pl.T) : cellsT (l ++ m) = cellsT l ++ cellsT m := by simp [cellsT]
theorem cellsT_at : ∀ (l : List Pl.T) (i : Nat), i < l.length → (cellsT l)[i * 2]? = some (.int .i64 (l.getD i (0, 0)).1) ∧ (cellsT l)[i * 2 + 1]? = some (.int .i64 (l.getD i (0, 0)).2)
  | [], i, h => by simp at h
  | t :: l, 0, _ => by simp [cellsT]
  | t :: l, i + 1, h => by
    have := cellsT_at l i (by simpa using h)
    have e1 : (i + 1) * 2 = i * 2 + 2 := by omega
    have e2 : cellsT (t :: l) = [.int .i64 t.1, .int .i64 t.2] ++ cellsT l := rfl
    rw [e1, e2]
    simp only [List.getD_cons_succ]
    refine ⟨?_, ?_⟩
    · rw [List.getElem?_append_right (by simp)]; simpa using this.1
    · rw [List.getElem?_append_right (by simp)]; simpa using this.2
def OwnT (base : Nat) (w : World) (v : Value) (l : List Pl.T) : Prop := w.ownsRow base 44 2 v l.length (cellsT l)
theorem OwnT.nil_ (base : Nat) (w : World) : OwnT base w (.slice none 0 0) [] := World.ownsRow_nil _ _ _ _
theorem OwnT.ts {base : Nat} {w : World} {v : Value} {l : List Pl.T} (h : OwnT base w v l) : Ts w v l := by
  have hl := h.1
  rcases h.2 with ⟨rfl, hn⟩ | ⟨g, cap, cur, rfl, hb, hg, h1, h2, h3, h4⟩
  · have : l = [] := List.eq_nil_of_length_eq_zero hn
    subst this
    exact ⟨none, 0, rfl, .inl rfl⟩
  · refine ⟨_, _, rfl, .inr ⟨g, 0, rfl, fun i hi => ?_⟩⟩
    have hc := cellsT_at l i hi
    have hcell : ∀ j x, (cellsT l)[j]? = some x → w.cell? ⟨g, 0 + j, none⟩ = some x := fun j x hx => by
      rw [cell_of_row w g (0 + j) cur 44 (0, 0) hg]
      rw [← h4] at hx
      have hj : j < l.length * 2 := by
        rcases Nat.lt_or_ge j (l.length * 2) with c | c
        · exact c
        · rw [List.getElem?_eq_none (by rw [List.length_take]; omega)] at hx; cases hx
      rw [List.getElem?_take_of_lt hj] at hx
      rw [Nat.zero_add, ← Array.getElem?_toList]
      exact hx
    exact ⟨hcell _ _ hc.1, by have := hcell _ _ hc.2; simpa [Nat.add_assoc] using this⟩
theorem New.appended {w wr w1 : World} {e : TypeId} {size : Nat} {v : Value} {n : Nat} {xs : List Value} {o : Obj} (hF : New w wr) (hO : wr.ownsRow w.heap.size e size v n xs) (hg : (wr.alloc o).grownBy w1 v.ownBlock) : New w w1 :=
  (Fr.alloc hF o).grown hg fun k ek => .inr (hO.lt k ek).1
theorem OwnT.snoc {base : Nat} {w : World} {v : Value} {l : List Pl.T} {x y : Int} (h : w.ownsRow base 44 2 v (l.length + 1) (cellsT l ++ [.int .i64 x, .int .i64 y])) : OwnT base w v (l ++ [(x, y)]) := by
  unfold OwnT
  have e1 : (l ++ [(x, y)]).length = l.length + 1 := by simp
  rw [e1, cellsT_app]; exact h
theorem cell_two_new (w : World) (x y : Value) (t : TypeId) : ∀ j u, [x, y][j]? = some u → (w.alloc (.cells #[x, y] t)).cell? ((⟨w.heap.size, 0, none⟩ : Addr).add j) = some u := by
  intro j u hj
  have hg : (w.alloc (.cells #[x, y] t)).heap[w.heap.size]? = some (.cells #[x, y] t (0, 0)) := heap_alloc_new w _
  match j, hj with
  | 0, hj => exact (cell_of_row _ _ 0 _ t (0, 0) hg).trans (by simpa using hj)
  | 1, hj => exact (cell_of_row _ _ 1 _ t (0, 0) hg).trans (by simpa using hj)
theorem two_ints (x y : Int) : ∀ u ∈ [Value.int .i64 x, Value.int .i64 y], u.oneCell' = true := by simp [Value.oneCell']

/- what a call of a polynomial's function gives -/
def GaveT (l : List Pl.T) (w : World) (e : Ending) (w' : World) : Prop := ∃ v, e = .returned v ∧ Ts w' v l ∧ New w w'

theorem info26 : (Tryd.prog.info? 44).map (fun i => (i.zero, i.size, i.bytes)) = some (some (.agg #[.int .i64 0, .int .i64 0]), 2, 16) := by kernel_rfl

end Go.Proofs.YtdelekkbkpldjaaDoor
