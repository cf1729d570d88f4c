/- Walks: same (two polynomials). -/
import Derived.Laws.StructEq
import Derived.Test.YtcfpdeeipbekfaaT0
import Derived.Test.YtcfpdeeipbekfaaMAlld
/- Walks: same (two polynomials). -/
namespace Go.Proofs.Ytcfpdeeipbekfaa
open Go.RowKit
theorem q1 : Try.prog.eqGuardType Try.prog.depth 58 = false := by kernel_rfl
theorem q2 : Try.prog.stoodInHeld 58 = false := by kernel_rfl
theorem q3 : Try.prog.underlying 58 = some (.struct (Try.prog.fieldsOf 58)) := by kernel_rfl
theorem q4 : (Try.prog.fieldsOf 58).toList.map (fun f => (f.type, f.name, f.offset)) = [(3, "Exp", 0), (3, "Coef", 1)] := by kernel_rfl
theorem pinfo3 : (Try.prog.info? 3).map (fun i => (i.zero, i.size, i.bytes)) = some (some (.int .i64 0), 1, 8) := by kernel_rfl
theorem hne (w : World) (a b c d : Int) : (binOp .neq 58 (.agg #[.int .i64 a, .int .i64 b]) (.agg #[.int .i64 c, .int .i64 d])).run Try.prog w = .ok (.bool (!(a == c && b == d))) w := by
  rw [run_neq_struct, run_equalIn_agg _ _ _ _ _ q3 q2]
  have h4 := q4
  rcases h : (Try.prog.fieldsOf 58).toList with _ | ⟨f1, _ | ⟨f2, _ | ⟨f3, r⟩⟩⟩ <;> simp [h] at h4
  obtain ⟨⟨t1, n1, o1⟩, t2, n2, o2⟩ := h4
  have hu := Try.underlying3
  obtain ⟨i0, hi0, hz1, hz2⟩ := info_parts pinfo3
  cases hac : a == c <;> simp [go_sem, Op.eqFields, n1, n2, t1, t2, o1, o2, part, sizeOf, typeInfo, hi0, hz1, run_equalIn_int _ _ _ .i64 .i64 _ _ hu, hac]
  by_cases hbd : b = d <;> simp [hbd]

/- terms in memory: two cells each -/
def TermsAt (w : World) (a : Option Addr) (l : List Pl.T) : Prop :=
  l = [] ∨ ∃ b o, a = some ⟨b, o, none⟩ ∧ ∀ i, i < l.length → w.cell? ⟨b, o + i * 2, none⟩ = some (.int .i64 (l.getD i (0, 0)).1) ∧ w.cell? ⟨b, o + i * 2 + 1, none⟩ = some (.int .i64 (l.getD i (0, 0)).2)
theorem TermsAt.at {w : World} {a : Option Addr} {l : List Pl.T} (h : TermsAt w a l) {k : Nat} (hk : k < l.length) :
    ∃ b o, a = some ⟨b, o, none⟩ ∧ w.cell? ⟨b, o + k * 2, none⟩ = some (.int .i64 (l.getD k (0, 0)).1) ∧ w.cell? ⟨b, o + k * 2 + 1, none⟩ = some (.int .i64 (l.getD k (0, 0)).2) := by
  rcases h with rfl | ⟨b, o, rfl, h⟩
  · simp at hk
  · exact ⟨b, o, rfl, h k hk⟩
theorem New.terms {w w' : World} (h : New w w') {a : Option Addr} {l : List Pl.T} (ht : TermsAt w a l) : TermsAt w' a l := by
  rcases ht with rfl | ⟨b, o, rfl, hc⟩
  · exact .inl rfl
  · exact .inr ⟨b, o, rfl, fun i hi => ⟨h.cell (hc i hi).1 (fun x => x), h.cell (hc i hi).2 (fun x => x)⟩⟩
/- a slice of terms -/
def Ts (w : World) (v : Value) (l : List Pl.T) : Prop := ∃ a c, v = .slice a l.length c ∧ TermsAt w a l
theorem New.ts {w w' : World} (h : New w w') {v : Value} {l : List Pl.T} (ht : Ts w v l) : Ts w' v l := by
  obtain ⟨a, c, rfl, ht⟩ := ht
  exact ⟨a, c, rfl, h.terms ht⟩
end Go.Proofs.Ytcfpdeeipbekfaa

/- Words: numbers in memory; a slice of terms that a call makes. -/
namespace Go.Proofs.Ytcfpdeeipbekfaa
open Go.RowKit

def IntsAt (w : World) (a : Option Addr) (xs : List Int) : Prop :=
  xs = [] ∨ ∃ b o, a = some ⟨b, o, none⟩ ∧ ∀ i, i < xs.length → w.cell? ⟨b, o + i, none⟩ = some (.int .i64 (xs.getD i 0))
theorem New.ints {w w' : World} (h : New w w') {a : Option Addr} {xs : List Int} (hi : IntsAt w a xs) : IntsAt w' a xs := by
  rcases hi with rfl | ⟨b, o, rfl, hc⟩
  · exact .inl rfl
  · exact .inr ⟨b, o, rfl, fun i hi => h.cell (hc i hi) (fun x => x)⟩
theorem IntsAt.at {w : World} {a : Option Addr} {xs : List Int} (h : IntsAt w a xs) {k : Nat} (hk : k < xs.length) :
    ∃ b o, a = some ⟨b, o, none⟩ ∧ w.cell? ⟨b, o + k, none⟩ = some (.int .i64 (xs.getD k 0)) := by
  rcases h with rfl | ⟨b, o, rfl, h⟩
  · simp at hk
  · exact ⟨b, o, rfl, h k hk⟩
def Raw (xs : List Int) : Prop := ∀ x ∈ xs, -9223372036854775808 ≤ x ∧ x ≤ 9223372036854775807
theorem Raw.get {xs : List Int} (h : Raw xs) (k : Nat) : -9223372036854775808 ≤ xs.getD k 0 ∧ xs.getD k 0 ≤ 9223372036854775807 := by
  rw [List.getD_eq_getElem?_getD]
  cases e : xs[k]? with
  | none => simp
  | some x => exact h x (List.mem_of_getElem? e)

/- the cells of terms; a row of the call's own that holds them -/
def cellsT (l : List Pl.T) : List Value := l.flatMap fun t => [.int .i64 t.1, .int .i64 t.2]
theorem cellsT_app (l m : List Pl.T) : cellsT (l ++ m) = cellsT l ++ cellsT m := by simp [cellsT]
theorem cellsT_at : ∀ (l : List Pl.T) (i : Nat), i < l.length → (cellsT l)[i * 2]? = some (.int .i64 (l.getD i (0, 0)).1) ∧ (cellsT l)[i * 2 + 1]? = some (.int .i64 (l.getD i (0, 0)).2)
  | [], i, h => by simp at h
  | t :: l, 0, _ => by simp [cellsT]
  | t :: l, i + 1, h => by
    have := cellsT_at l i (by simpa using h)
    have e1 : (i + 1) * 2 = i * 2 + 2 := by omega
    have e2 : cellsT (t :: l) = [.int .i64 t.1, .int .i64 t.2] ++ cellsT l := rfl
    rw [e1, e2]
    simp only [List.getD_cons_succ]
    refine ⟨?_, ?_⟩
    · rw [List.getElem?_append_right (by simp)]; simpa using this.1
    · rw [List.getElem?_append_right (by simp)]; simpa using this.2
def OwnT (base : Nat) (w : World) (v : Value) (l : List Pl.T) : Prop := w.ownsRow base 58 2 v l.length (cellsT l)
theorem OwnT.nil_ (base : Nat) (w : World) : OwnT base w (.slice none 0 0) [] := World.ownsRow_nil _ _ _ _
theorem OwnT.ts {base : Nat} {w : World} {v : Value} {l : List Pl.T} (h : OwnT base w v l) : Ts w v l := by
  have hl := h.1
  rcases h.2 with ⟨rfl, hn⟩ | ⟨g, cap, cur, rfl, hb, hg, h1, h2, h3, h4⟩
  · have : l = [] := List.eq_nil_of_length_eq_zero hn
    subst this
    exact ⟨none, 0, rfl, .inl rfl⟩
  · refine ⟨_, _, rfl, .inr ⟨g, 0, rfl, fun i hi => ?_⟩⟩
    have hc := cellsT_at l i hi
    have hcell : ∀ j x, (cellsT l)[j]? = some x → w.cell? ⟨g, 0 + j, none⟩ = some x := fun j x hx => by
      rw [cell_of_row w g (0 + j) cur 58 (0, 0) hg]
      rw [← h4] at hx
      have hj : j < l.length * 2 := by
        rcases Nat.lt_or_ge j (l.length * 2) with c | c
        · exact c
        · rw [List.getElem?_eq_none (by rw [List.length_take]; omega)] at hx; cases hx
      rw [List.getElem?_take_of_lt hj] at hx
      rw [Nat.zero_add, ← Array.getElem?_toList]
      exact hx
    exact ⟨hcell _ _ hc.1, by have := hcell _ _ hc.2; simpa [Nat.add_assoc] using this⟩
theorem New.appended {w wr w1 : World} {e : TypeId} {size : Nat} {v : Value} {n : Nat} {xs : List Value} {o : Obj} (hF : New w wr) (hO : wr.ownsRow w.heap.size e size v n xs) (hg : (wr.alloc o).grownBy w1 v.ownBlock) : New w w1 :=
  (Fr.alloc hF o).grown hg fun k ek => .inr (hO.lt k ek).1
theorem OwnT.snoc {base : Nat} {w : World} {v : Value} {l : List Pl.T} {x y : Int} (h : w.ownsRow base 58 2 v (l.length + 1) (cellsT l ++ [.int .i64 x, .int .i64 y])) : OwnT base w v (l ++ [(x, y)]) := by
  unfold OwnT
  have e1 : (l ++ [(x, y)]).length = l.length + 1 := by simp
  rw [e1, cellsT_app]; exact h
theorem cell_two_new (w : World) (x y : Value) (t : TypeId) : ∀ j u, [x, y][j]? = some u → (w.alloc (.cells #[x, y] t)).cell? ((⟨w.heap.size, 0, none⟩ : Addr).add j) = some u := by
  intro j u hj
  have hg : (w.alloc (.cells #[x, y] t)).heap[w.heap.size]? = some (.cells #[x, y] t (0, 0)) := heap_alloc_new w _
  match j, hj with
  | 0, hj => exact (cell_of_row _ _ 0 _ t (0, 0) hg).trans (by simpa using hj)
  | 1, hj => exact (cell_of_row _ _ 1 _ t (0, 0) hg).trans (by simpa using hj)
theorem two_ints (x y : Int) : ∀ u ∈ [Value.int .i64 x, Value.int .i64 y], u.oneCell' = true := by simp [Value.oneCell']

/- what a call of a polynomial's function gives -/
def GaveT (l : List Pl.T) (w : World) (e : Ending) (w' : World) : Prop := ∃ v, e = .returned v ∧ Ts w' v l ∧ New w w'

theorem info26 : (Try.prog.info? 58).map (fun i => (i.zero, i.size, i.bytes)) = some (some (.agg #[.int .i64 0, .int .i64 0]), 2, 16) := by kernel_rfl

end Go.Proofs.Ytcfpdeeipbekfaa
