/- Walks: same (two polynomials). -/
import Derived.Laws.StructEq
import Derived.Test.YtdelekkbkpldjaaDoorT0
import Derived.Test.YtdelekkbkpldjaaDoorMAllc
/- Walks: same (two polynomials). -/
namespace Go.Proofs.YtdelekkbkpldjaaDoor
open Go.RowKit
theorem q1 : Tryd.prog.eqGuardType Tryd.prog.depth 44 = false := by kernel_rfl
theorem q2 : Tryd.prog.stoodInHeld 44 = false := by kernel_rfl
theorem q3 : Tryd.prog.underlying 44 = some (.struct (Tryd.prog.fieldsOf 44)) := by kernel_rfl
theorem q4 : (Tryd.prog.fieldsOf 44).toList.map (fun f => (f.type, f.name, f.offset)) = [(3, "Exp", 0), (3, "Coef", 1)] := by kernel_rfl
theorem pinfo3 : (Tryd.prog.info? 3).map (fun i => (i.zero, i.size, i.bytes)) = some (some (.int .i64 0), 1, 8) := by kernel_rfl
theorem hne (w : World) (a b c d : Int) : (binOp .neq 44 (.agg #[.int .i64 a, .int .i64 b]) (.agg #[.int .i64 c, .int .i64 d])).run Tryd.prog w = .ok (.bool (!(a == c && b == d))) w := by
  rw [run_neq_struct, run_equalIn_agg _ _ _ _ _ q3 q2]
  have h4 := q4
  rcases h : (Tryd.prog.fieldsOf 44).toList with _ | ⟨f1, _ | ⟨f2, _ | ⟨f3, r⟩⟩⟩ <;> simp [h] at h4
  obtain ⟨⟨t1, n1, o1⟩, t2, n2, o2⟩ := h4
  have hu := Tryd.underlying3
  obtain ⟨i0, hi0, hz1, hz2⟩ := info_parts pinfo3
  cases hac : a == c <;> simp [go_sem, Op.eqFields, n1, n2, t1, t2, o1, o2, part, sizeOf, typeInfo, hi0, hz1, run_equalIn_int _ _ _ .i64 .i64 _ _ hu, hac]
  by_cases hbd : b = d <;> simp [hbd]

/- terms in memory: two cells each -/
def TermsAt (w : World) (a : Option Addr) (l : List Pl.T) : Prop :=
  l = [] ∨ ∃ b o, a = some ⟨b, o, none⟩ ∧ ∀ i, i < l.length → w.cell? ⟨b, o + i * 2, none⟩ = some (.int .i64 (l.getD i (0, 0)).1) ∧ w.cell? ⟨b, o + i * 2 + 1, none⟩ = some (.int .i64 (l.getD i (0, 0)).2)
theorem TermsAt.at {w : World} {a : Option Addr} {l : List Pl.T} (h : TermsAt w a l) {k : Nat} (hk : k < l.length) :
    ∃ b o, a = some ⟨b, o, none⟩ ∧ w.cell? ⟨b, o + k * 2, none⟩ = some (.int .i64 (l.getD k (0, 0)).1) ∧ w.cell? ⟨b, o + k * 2 + 1, none⟩ = some (.int .i64 (l.getD k (0, 0)).2) := by
  rcases h with rfl | ⟨b, o, rfl, h⟩
  · simp at hk
  · exact ⟨b, o, rfl, h k hk⟩
theorem New.terms {w w' : World} (h : New w w') {a : Option Addr} {l : List Pl.T} (ht : TermsAt w a l) : TermsAt w' a l := by
  rcases ht with rfl | ⟨b, o, rfl, hc⟩
  · exact .inl rfl
  · exact .inr ⟨b, o, rfl, fun i hi => ⟨h.cell (hc i hi).1 (fun x => x), h.cell (hc i hi).2 (fun x => x)⟩⟩
/- a slice of terms -/
def Ts (w : World) (v : Value) (l : List Pl.T) : Prop := ∃ a c, v = .slice a l.length c ∧ TermsAt w a l
theorem New.ts {w w' : World} (h : New w w') {v : Value} {l : List Pl.T} (ht : Ts w v l) : Ts w' v l := by
  obtain ⟨a, c, rfl, ht⟩ := ht
  exact ⟨a, c, rfl, h.terms ht⟩
theorem at_ext {x y : List Pl.T} (hl : x.length = y.length) (h : ∀ j, j < x.length → x.getD j (0, 0) = y.getD j (0, 0)) : x = y := by
  refine List.ext_getElem hl fun i h1 h2 => ?_
  have := h i h1
  simpa [List.getD_eq_getElem?_getD, h1, h2] using this
theorem ne_at {x y : List Pl.T} {k : Nat} (h : x.getD k (0, 0) ≠ y.getD k (0, 0)) : x ≠ y := fun e => h (by rw [e])
def neq26 (a b c d : Int) (r : Bool) : Prop := ∀ w, (binOp .neq 44 (.agg #[.int .i64 a, .int .i64 b]) (.agg #[.int .i64 c, .int .i64 d])).run Tryd.prog w = .ok (.bool r) w
theorem neq26_no {a b c d : Int} (h : a = c ∧ b = d) : neq26 a b c d false := fun w => by rw [hne]; simp [h.1, h.2]
theorem neq26_yes {a b c d : Int} (h : ¬ (a = c ∧ b = d)) : neq26 a b c d true := fun w => by
  rw [hne]
  have : (a == c && b == d) = false := by
    rw [Bool.eq_false_iff]; intro x; simp at x; exact h x
  rw [this]; rfl

set_option maxRecDepth 100000 in
set_option maxHeartbeats 400000 in
theorem same_any (va vb : Value) (x y : List Pl.T) (w : World) (hx : Ts w va x) (hy : Ts w vb y) (lx : x.length ≤ 1000000) (ly : y.length ≤ 1000000) :
    Calls Tryd.prog 11 #[va, vb] w fun e w' => e = .returned (.bool (decide (x = y))) ∧ New w w' := by
  obtain ⟨a, c, rfl, hx⟩ := hx
  obtain ⟨a', c', rfl, hy⟩ := hy
  obtain ⟨l, hl⟩ : ∃ l, l = x.length := ⟨_, rfl⟩
  obtain ⟨l', hl'⟩ : ∃ l, l = y.length := ⟨_, rfl⟩
  rw [← hl, ← hl']
  have HX := Lib.hid hx
  have HY := Lib.hid hy
  have HL := Lib.hid hl
  have HL' := Lib.hid hl'
  have l1 : l ≤ 1000000 := by omega
  have l2 : l' ≤ 1000000 := by omega
  clear hx hy hl hl' lx ly
  have q1' := q1
  have hu := Tryd.underlying3
  by_cases h : l = l'
  · subst h
    go_enter Tryd.func11, Tryd.ntmps11
    go_wp2
    go_loopw [5] (fun i wr => ∃ k : Nat, k ≤ l ∧ i = .int .i64 k ∧ Hid (New w wr) ∧ Hid (∀ j, j < k → x.getD j (0, 0) = y.getD j (0, 0))) (fun i _ => l - (intOf i).toNat)
    case atStart => exact ⟨0, by omega, rfl, Lib.hid (Fr.refl _ _), Lib.hid fun j hj => by omega⟩
    case round =>
      obtain ⟨k, hk, rfl, HF, HE⟩ := hrel
      by_cases hlt : k < l
      · obtain ⟨b, o, rfl, d1, d2⟩ := (New.terms HF.out HX.out).at (k := k) (by have := HL.out; omega)
        obtain ⟨b', o', rfl, d3, d4⟩ := (New.terms HF.out HY.out).at (k := k) (by have := HL'.out; omega)
        obtain ⟨e1, H1⟩ : ∃ e, Hid (e = (x.getD k (0, 0)).1) := ⟨_, Lib.hid rfl⟩
        obtain ⟨e2, H2⟩ : ∃ e, Hid (e = (x.getD k (0, 0)).2) := ⟨_, Lib.hid rfl⟩
        obtain ⟨e3, H3⟩ : ∃ e, Hid (e = (y.getD k (0, 0)).1) := ⟨_, Lib.hid rfl⟩
        obtain ⟨e4, H4⟩ : ∃ e, Hid (e = (y.getD k (0, 0)).2) := ⟨_, Lib.hid rfl⟩
        rw [← H1.out] at d1
        rw [← H2.out] at d2
        rw [← H3.out] at d3
        rw [← H4.out] at d4
        have i1 : (0 : Int) ≤ (k : Int) := by omega
        have i2 : (k : Int) < (l : Int) := by omega
        by_cases hq : e1 = e3 ∧ e2 = e4
        · have hn : ∀ w, (binOp .neq 44 (.agg #[.int .i64 e1, .int .i64 e2]) (.agg #[.int .i64 e3, .int .i64 e4])).run Tryd.prog w = .ok (.bool false) w := neq26_no hq
          have HQ := Lib.hid hq
          clear hq
          go_wp2
          go_quiet (fail)
          go_wp2
          go_roundw
          case rel => exact ⟨k + 1, by omega, by go_num, Lib.hid (HF.out.drewN _), Lib.hid fun j hj => by
            by_cases c : j = k
            · subst c; exact Prod.ext (by rw [← H1.out, ← H3.out]; exact HQ.out.1) (by rw [← H2.out, ← H4.out]; exact HQ.out.2)
            · exact HE.out j (by omega)⟩
          case measure => simp [intOf]; omega
        · have hn : ∀ w, (binOp .neq 44 (.agg #[.int .i64 e1, .int .i64 e2]) (.agg #[.int .i64 e3, .int .i64 e4])).run Tryd.prog w = .ok (.bool true) w := neq26_yes hq
          have HQ := Lib.hid hq
          clear hq
          go_wp2
          go_quiet (fail)
          go_wp2
          go_ret
          exact ⟨ret_bool (by rw [eq_comm, decide_eq_false_iff_not]; exact ne_at fun z => HQ.out ⟨by rw [H1.out, H3.out, z], by rw [H2.out, H4.out, z]⟩), HF.out.drewN _⟩
      · obtain rfl : k = l := by omega
        go_wp2
        go_ret
        exact ⟨ret_bool (by rw [eq_comm, decide_eq_true_iff]; exact at_ext (by rw [← HL.out, ← HL'.out]) fun j hj => HE.out j (by rw [HL.out]; exact hj)), HF.out⟩
  · have h' : ¬ (l : Int) = (l' : Int) := by omega
    go_enter Tryd.func11, Tryd.ntmps11
    go_wp2
    go_ret
    exact ⟨ret_bool (by rw [eq_comm, decide_eq_false_iff_not]; intro z; apply h; rw [HL.out, HL'.out, z]), Fr.refl _ _⟩
end Go.Proofs.YtdelekkbkpldjaaDoor

/- Words: numbers in memory; a slice of terms that a call makes. -/
namespace Go.Proofs.YtdelekkbkpldjaaDoor
open Go.RowKit

def IntsAt (w : World) (a : Option Addr) (xs : List Int) : Prop :=
  xs = [] ∨ ∃ b o, a = some ⟨b, o, none⟩ ∧ ∀ i, i < xs.length → w.cell? ⟨b, o + i, none⟩ = some (.int .i64 (xs.getD i 0))
theorem New.ints {w w' : World} (h : New w w') {a : Option Addr} {xs : List Int} (hi : IntsAt w a xs) : IntsAt w' a xs := by
  rcases hi with rfl | ⟨b, o, rfl, hc⟩
  · exact .inl rfl
  · exact .inr ⟨b, o, rfl, fun i hi => h.cell (hc i hi) (fun x => x)⟩
theorem IntsAt.at {w : World} {a : Option Addr} {xs : List Int} (h : IntsAt w a xs) {k : Nat} (hk : k < xs.length) :
    ∃ b o, a = some ⟨b, o, none⟩ ∧ w.cell? ⟨b, o + k, none⟩ = some (.int .i64 (xs.getD k 0)) := by
  rcases h with rfl | ⟨b, o, rfl, h⟩
  · simp at hk
  · exact ⟨b, o, rfl, h k hk⟩
def Raw (xs : List Int) : Prop := ∀ x ∈ xs, -9223372036854775808 ≤ x ∧ x ≤ 9223372036854775807
theorem Raw.get {xs : List Int} (h : Raw xs) (k : Nat) : -9223372036854775808 ≤ xs.getD k 0 ∧ xs.getD k 0 ≤ 9223372036854775807 := by
  rw [List.getD_eq_getElem?_getD]
  cases e : xs[k]? with
  | none => simp
  | some x => exact h x (List.mem_of_getElem? e)

/- the cells of terms; a row of the call's own that holds them -/
def cellsT (l : List Pl.T) : List Value := l.flatMap fun t => [.int .i64 t.1, .int .i64 t.2]
theorem cellsT_app (l m : List Pl.T) : cellsT (l ++ m) = cellsT l ++ cellsT m := by simp [cellsT]
theorem cellsT_at : ∀ (l : List Pl.T) (i : Nat), i < l.length → (cellsT l)[i * 2]? = some (.int .i64 (l.getD i (0, 0)).1) ∧ (cellsT l)[i * 2 + 1]? = some (.int .i64 (l.getD i (0, 0)).2)
  | [], i, h => by simp at h
  | t :: l, 0, _ => by simp [cellsT]
  | t :: l, i + 1, h => by
    have := cellsT_at l i (by simpa using h)
    have e1 : (i + 1) * 2 = i * 2 + 2 := by omega
    have e2 : cellsT (t :: l) = [.int .i64 t.1, .int .i64 t.2] ++ cellsT l := rfl
    rw [e1, e2]
    simp only [List.getD_cons_succ]
    refine ⟨?_, ?_⟩
    · rw [List.getElem?_append_right (by simp)]; simpa using this.1
    · rw [List.getElem?_append_right (by simp)]; simpa using this.2
def OwnT (base : Nat) (w : World) (v : Value) (l : List Pl.T) : Prop := w.ownsRow base 44 2 v l.length (cellsT l)
theorem OwnT.nil_ (base : Nat) (w : World) : OwnT base w (.slice none 0 0) [] := World.ownsRow_nil _ _ _ _
theorem OwnT.ts {base : Nat} {w : World} {v : Value} {l : List Pl.T} (h : OwnT base w v l) : Ts w v l := by
  have hl := h.1
  rcases h.2 with ⟨rfl, hn⟩ | ⟨g, cap, cur, rfl, hb, hg, h1, h2, h3, h4⟩
  · have : l = [] := List.eq_nil_of_length_eq_zero hn
    subst this
    exact ⟨none, 0, rfl, .inl rfl⟩
  · refine ⟨_, _, rfl, .inr ⟨g, 0, rfl, fun i hi => ?_⟩⟩
    have hc := cellsT_at l i hi
    have hcell : ∀ j x, (cellsT l)[j]? = some x → w.cell? ⟨g, 0 + j, none⟩ = some x := fun j x hx => by
      rw [cell_of_row w g (0 + j) cur 44 (0, 0) hg]
      rw [← h4] at hx
      have hj : j < l.length * 2 := by
        rcases Nat.lt_or_ge j (l.length * 2) with c | c
        · exact c
        · rw [List.getElem?_eq_none (by rw [List.length_take]; omega)] at hx; cases hx
      rw [List.getElem?_take_of_lt hj] at hx
      rw [Nat.zero_add, ← Array.getElem?_toList]
      exact hx
    exact ⟨hcell _ _ hc.1, by have := hcell _ _ hc.2; simpa [Nat.add_assoc] using this⟩
theorem New.appended {w wr w1 : World} {e : TypeId} {size : Nat} {v : Value} {n : Nat} {xs : List Value} {o : Obj} (hF : New w wr) (hO : wr.ownsRow w.heap.size e size v n xs) (hg : (wr.alloc o).grownBy w1 v.ownBlock) : New w w1 :=
  (Fr.alloc hF o).grown hg fun k ek => .inr (hO.lt k ek).1
theorem OwnT.snoc {base : Nat} {w : World} {v : Value} {l : List Pl.T} {x y : Int} (h : w.ownsRow base 44 2 v (l.length + 1) (cellsT l ++ [.int .i64 x, .int .i64 y])) : OwnT base w v (l ++ [(x, y)]) := by
  unfold OwnT
  have e1 : (l ++ [(x, y)]).length = l.length + 1 := by simp
  rw [e1, cellsT_app]; exact h
theorem cell_two_new (w : World) (x y : Value) (t : TypeId) : ∀ j u, [x, y][j]? = some u → (w.alloc (.cells #[x, y] t)).cell? ((⟨w.heap.size, 0, none⟩ : Addr).add j) = some u := by
  intro j u hj
  have hg : (w.alloc (.cells #[x, y] t)).heap[w.heap.size]? = some (.cells #[x, y] t (0, 0)) := heap_alloc_new w _
  match j, hj with
  | 0, hj => exact (cell_of_row _ _ 0 _ t (0, 0) hg).trans (by simpa using hj)
  | 1, hj => exact (cell_of_row _ _ 1 _ t (0, 0) hg).trans (by simpa using hj)
theorem two_ints (x y : Int) : ∀ u ∈ [Value.int .i64 x, Value.int .i64 y], u.oneCell' = true := by simp [Value.oneCell']

/- what a call of a polynomial's function gives -/
def GaveT (l : List Pl.T) (w : World) (e : Ending) (w' : World) : Prop := ∃ v, e = .returned v ∧ Ts w' v l ∧ New w w'

theorem info26 : (Tryd.prog.info? 44).map (fun i => (i.zero, i.size, i.bytes)) = some (some (.agg #[.int .i64 0, .int .i64 0]), 2, 16) := by kernel_rfl

end Go.Proofs.YtdelekkbkpldjaaDoor
