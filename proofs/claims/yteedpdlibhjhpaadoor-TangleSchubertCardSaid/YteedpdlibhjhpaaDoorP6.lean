/- Walks: same (two polynomials). -/
import Derived.Laws.StructEq
import Derived.Test.YteedpdlibhjhpaaDoorT0
import Derived.Test.YteedpdlibhjhpaaDoorMAll
import Derived.Maps.RangeWalk
import Derived.Maps.Ext
import Derived.Maps.OwnOps
import Derived.Test.YteedpdlibhjhpaaDoorShelf
/- Walks: same (two polynomials). -/
namespace Go.Proofs.YteedpdlibhjhpaaDoor
open Go.RowKit
theorem q1 : Tryd.prog.eqGuardType Tryd.prog.depth 58 = false := by kernel_rfl
theorem q2 : Tryd.prog.stoodInHeld 58 = false := by kernel_rfl
theorem q3 : Tryd.prog.underlying 58 = some (.struct (Tryd.prog.fieldsOf 58)) := by kernel_rfl
theorem q4 : (Tryd.prog.fieldsOf 58).toList.map (fun f => (f.type, f.name, f.offset)) = [(3, "Exp", 0), (3, "Coef", 1)] := by kernel_rfl
theorem pinfo3 : (Tryd.prog.info? 3).map (fun i => (i.zero, i.size, i.bytes)) = some (some (.int .i64 0), 1, 8) := by kernel_rfl
theorem hne (w : World) (a b c d : Int) : (binOp .neq 58 (.agg #[.int .i64 a, .int .i64 b]) (.agg #[.int .i64 c, .int .i64 d])).run Tryd.prog w = .ok (.bool (!(a == c && b == d))) w := by
  rw [run_neq_struct, run_equalIn_agg _ _ _ _ _ q3 q2]
  have h4 := q4
  rcases h : (Tryd.prog.fieldsOf 58).toList with _ | ⟨f1, _ | ⟨f2, _ | ⟨f3, r⟩⟩⟩ <;> simp [h] at h4
  obtain ⟨⟨t1, n1, o1⟩, t2, n2, o2⟩ := h4
  have hu := Tryd.underlying3
  obtain ⟨i0, hi0, hz1, hz2⟩ := info_parts pinfo3
  cases hac : a == c <;> simp [go_sem, Op.eqFields, n1, n2, t1, t2, o1, o2, part, sizeOf, typeInfo, hi0, hz1, run_equalIn_int _ _ _ .i64 .i64 _ _ hu, hac]
  by_cases hbd : b = d <;> simp [hbd]

/- terms in memory: two cells each -/
def TermsAt (w : World) (a : Option Addr) (l : List Pl.T) : Prop :=
  l = [] ∨ ∃ b o, a = some ⟨b, o, none⟩ ∧ ∀ i, i < l.length → w.cell? ⟨b, o + i * 2, none⟩ = some (.int .i64 (l.getD i (0, 0)).1) ∧ w.cell? ⟨b, o + i * 2 + 1, none⟩ = some (.int .i64 (l.getD i (0, 0)).2)
theorem TermsAt.at {w : World} {a : Option Addr} {l : List Pl.T} (h : TermsAt w a l) {k : Nat} (hk : k < l.length) :
    ∃ b o, a = some ⟨b, o, none⟩ ∧ w.cell? ⟨b, o + k * 2, none⟩ = some (.int .i64 (l.getD k (0, 0)).1) ∧ w.cell? ⟨b, o + k * 2 + 1, none⟩ = some (.int .i64 (l.getD k (0, 0)).2) := by
  rcases h with rfl | ⟨b, o, rfl, h⟩
  · simp at hk
  · exact ⟨b, o, rfl, h k hk⟩
theorem New.terms {w w' : World} (h : New w w') {a : Option Addr} {l : List Pl.T} (ht : TermsAt w a l) : TermsAt w' a l := by
  rcases ht with rfl | ⟨b, o, rfl, hc⟩
  · exact .inl rfl
  · exact .inr ⟨b, o, rfl, fun i hi => ⟨h.cell (hc i hi).1 (fun x => x), h.cell (hc i hi).2 (fun x => x)⟩⟩
/- a slice of terms -/
def Ts (w : World) (v : Value) (l : List Pl.T) : Prop := ∃ a c, v = .slice a l.length c ∧ TermsAt w a l
theorem New.ts {w w' : World} (h : New w w') {v : Value} {l : List Pl.T} (ht : Ts w v l) : Ts w' v l := by
  obtain ⟨a, c, rfl, ht⟩ := ht
  exact ⟨a, c, rfl, h.terms ht⟩
theorem at_ext {x y : List Pl.T} (hl : x.length = y.length) (h : ∀ j, j < x.length → x.getD j (0, 0) = y.getD j (0, 0)) : x = y := by
  refine List.ext_getElem hl fun i h1 h2 => ?_
  have := h i h1
  simpa [List.getD_eq_getElem?_getD, h1, h2] using this
theorem ne_at {x y : List Pl.T} {k : Nat} (h : x.getD k (0, 0) ≠ y.getD k (0, 0)) : x ≠ y := fun e => h (by rw [e])
def neq26 (a b c d : Int) (r : Bool) : Prop := ∀ w, (binOp .neq 58 (.agg #[.int .i64 a, .int .i64 b]) (.agg #[.int .i64 c, .int .i64 d])).run Tryd.prog w = .ok (.bool r) w
theorem neq26_no {a b c d : Int} (h : a = c ∧ b = d) : neq26 a b c d false := fun w => by rw [hne]; simp [h.1, h.2]
theorem neq26_yes {a b c d : Int} (h : ¬ (a = c ∧ b = d)) : neq26 a b c d true := fun w => by
  rw [hne]
  have : (a == c && b == d) = false := by
    rw [Bool.eq_false_iff]; intro x; simp at x; exact h x
  rw [this]; rfl

set_option maxRecDepth 100000 in
set_option maxHeartbeats 400000 in
theorem same_any (va vb : Value) (x y : List Pl.T) (w : World) (hx : Ts w va x) (hy : Ts w vb y) (lx : x.length ≤ 1000000) (ly : y.length ≤ 1000000) :
    Calls Tryd.prog 10 #[va, vb] w fun e w' => e = .returned (.bool (decide (x = y))) ∧ New w w' := by
  obtain ⟨a, c, rfl, hx⟩ := hx
  obtain ⟨a', c', rfl, hy⟩ := hy
  obtain ⟨l, hl⟩ : ∃ l, l = x.length := ⟨_, rfl⟩
  obtain ⟨l', hl'⟩ : ∃ l, l = y.length := ⟨_, rfl⟩
  rw [← hl, ← hl']
  have HX := Lib.hid hx
  have HY := Lib.hid hy
  have HL := Lib.hid hl
  have HL' := Lib.hid hl'
  have l1 : l ≤ 1000000 := by omega
  have l2 : l' ≤ 1000000 := by omega
  clear hx hy hl hl' lx ly
  have q1' := q1
  have hu := Tryd.underlying3
  by_cases h : l = l'
  · subst h
    go_enter Tryd.func10, Tryd.ntmps10
    go_wp2
    go_loopw [5] (fun i wr => ∃ k : Nat, k ≤ l ∧ i = .int .i64 k ∧ Hid (New w wr) ∧ Hid (∀ j, j < k → x.getD j (0, 0) = y.getD j (0, 0))) (fun i _ => l - (intOf i).toNat)
    case atStart => exact ⟨0, by omega, rfl, Lib.hid (Fr.refl _ _), Lib.hid fun j hj => by omega⟩
    case round =>
      obtain ⟨k, hk, rfl, HF, HE⟩ := hrel
      by_cases hlt : k < l
      · obtain ⟨b, o, rfl, d1, d2⟩ := (New.terms HF.out HX.out).at (k := k) (by have := HL.out; omega)
        obtain ⟨b', o', rfl, d3, d4⟩ := (New.terms HF.out HY.out).at (k := k) (by have := HL'.out; omega)
        obtain ⟨e1, H1⟩ : ∃ e, Hid (e = (x.getD k (0, 0)).1) := ⟨_, Lib.hid rfl⟩
        obtain ⟨e2, H2⟩ : ∃ e, Hid (e = (x.getD k (0, 0)).2) := ⟨_, Lib.hid rfl⟩
        obtain ⟨e3, H3⟩ : ∃ e, Hid (e = (y.getD k (0, 0)).1) := ⟨_, Lib.hid rfl⟩
        obtain ⟨e4, H4⟩ : ∃ e, Hid (e = (y.getD k (0, 0)).2) := ⟨_, Lib.hid rfl⟩
        rw [← H1.out] at d1
        rw [← H2.out] at d2
        rw [← H3.out] at d3
        rw [← H4.out] at d4
        have i1 : (0 : Int) ≤ (k : Int) := by omega
        have i2 : (k : Int) < (l : Int) := by omega
        by_cases hq : e1 = e3 ∧ e2 = e4
        · have hn : ∀ w, (binOp .neq 58 (.agg #[.int .i64 e1, .int .i64 e2]) (.agg #[.int .i64 e3, .int .i64 e4])).run Tryd.prog w = .ok (.bool false) w := neq26_no hq
          have HQ := Lib.hid hq
          clear hq
          go_wp2
          go_quiet (fail)
          go_wp2
          go_roundw
          case rel => exact ⟨k + 1, by omega, by go_num, Lib.hid (HF.out.drewN _), Lib.hid fun j hj => by
            by_cases c : j = k
            · subst c; exact Prod.ext (by rw [← H1.out, ← H3.out]; exact HQ.out.1) (by rw [← H2.out, ← H4.out]; exact HQ.out.2)
            · exact HE.out j (by omega)⟩
          case measure => simp [intOf]; omega
        · have hn : ∀ w, (binOp .neq 58 (.agg #[.int .i64 e1, .int .i64 e2]) (.agg #[.int .i64 e3, .int .i64 e4])).run Tryd.prog w = .ok (.bool true) w := neq26_yes hq
          have HQ := Lib.hid hq
          clear hq
          go_wp2
          go_quiet (fail)
          go_wp2
          go_ret
          exact ⟨ret_bool (by rw [eq_comm, decide_eq_false_iff_not]; exact ne_at fun z => HQ.out ⟨by rw [H1.out, H3.out, z], by rw [H2.out, H4.out, z]⟩), HF.out.drewN _⟩
      · obtain rfl : k = l := by omega
        go_wp2
        go_ret
        exact ⟨ret_bool (by rw [eq_comm, decide_eq_true_iff]; exact at_ext (by rw [← HL.out, ← HL'.out]) fun j hj => HE.out j (by rw [HL.out]; exact hj)), HF.out⟩
  · have h' : ¬ (l : Int) = (l' : Int) := by omega
    go_enter Tryd.func10, Tryd.ntmps10
    go_wp2
    go_ret
    exact ⟨ret_bool (by rw [eq_comm, decide_eq_false_iff_not]; intro z; apply h; rw [HL.out, HL'.out, z]), Fr.refl _ _⟩
end Go.Proofs.YteedpdlibhjhpaaDoor

/- Words: numbers in memory; a slice of terms that a call makes. -/
namespace Go.Proofs.YteedpdlibhjhpaaDoor
open Go.RowKit

def IntsAt (w : World) (a : Option Addr) (xs : List Int) : Prop :=
  xs = [] ∨ ∃ b o, a = some ⟨b, o, none⟩ ∧ ∀ i, i < xs.length → w.cell? ⟨b, o + i, none⟩ = some (.int .i64 (xs.getD i 0))
theorem New.ints {w w' : World} (h : New w w') {a : Option Addr} {xs : List Int} (hi : IntsAt w a xs) : IntsAt w' a xs := by
  rcases hi with rfl | ⟨b, o, rfl, hc⟩
  · exact .inl rfl
  · exact .inr ⟨b, o, rfl, fun i hi => h.cell (hc i hi) (fun x => x)⟩
theorem IntsAt.at {w : World} {a : Option Addr} {xs : List Int} (h : IntsAt w a xs) {k : Nat} (hk : k < xs.length) :
    ∃ b o, a = some ⟨b, o, none⟩ ∧ w.cell? ⟨b, o + k, none⟩ = some (.int .i64 (xs.getD k 0)) := by
  rcases h with rfl | ⟨b, o, rfl, h⟩
  · simp at hk
  · exact ⟨b, o, rfl, h k hk⟩
def Raw (xs : List Int) : Prop := ∀ x ∈ xs, -9223372036854775808 ≤ x ∧ x ≤ 9223372036854775807
theorem Raw.get {xs : List Int} (h : Raw xs) (k : Nat) : -9223372036854775808 ≤ xs.getD k 0 ∧ xs.getD k 0 ≤ 9223372036854775807 := by
  rw [List.getD_eq_getElem?_getD]
  cases e : xs[k]? with
  | none => simp
  | some x => exact h x (List.mem_of_getElem? e)

/- the cells of terms; a row of the call's own that holds them -/
def cellsT (l : List Pl.T) : List Value := l.flatMap fun t => [.int .i64 t.1, .int .i64 t.2]
theorem cellsT_app (l m : List Pl.T) : cellsT (l ++ m) = cellsT l ++ cellsT m := by simp [cellsT]
theorem cellsT_at : ∀ (l : List Pl.T) (i : Nat), i < l.length → (cellsT l)[i * 2]? = some (.int .i64 (l.getD i (0, 0)).1) ∧ (cellsT l)[i * 2 + 1]? = some (.int .i64 (l.getD i (0, 0)).2)
  | [], i, h => by simp at h
  | t :: l, 0, _ => by simp [cellsT]
  | t :: l, i + 1, h => by
    have := cellsT_at l i (by simpa using h)
    have e1 : (i + 1) * 2 = i * 2 + 2 := by omega
    have e2 : cellsT (t :: l) = [.int .i64 t.1, .int .i64 t.2] ++ cellsT l := rfl
    rw [e1, e2]
    simp only [List.getD_cons_succ]
    refine ⟨?_, ?_⟩
    · rw [List.getElem?_append_right (by simp)]; simpa using this.1
    · rw [List.getElem?_append_right (by simp)]; simpa using this.2
def OwnT (base : Nat) (w : World) (v : Value) (l : List Pl.T) : Prop := w.ownsRow base 58 2 v l.length (cellsT l)
theorem OwnT.nil_ (base : Nat) (w : World) : OwnT base w (.slice none 0 0) [] := World.ownsRow_nil _ _ _ _
theorem OwnT.ts {base : Nat} {w : World} {v : Value} {l : List Pl.T} (h : OwnT base w v l) : Ts w v l := by
  have hl := h.1
  rcases h.2 with ⟨rfl, hn⟩ | ⟨g, cap, cur, rfl, hb, hg, h1, h2, h3, h4⟩
  · have : l = [] := List.eq_nil_of_length_eq_zero hn
    subst this
    exact ⟨none, 0, rfl, .inl rfl⟩
  · refine ⟨_, _, rfl, .inr ⟨g, 0, rfl, fun i hi => ?_⟩⟩
    have hc := cellsT_at l i hi
    have hcell : ∀ j x, (cellsT l)[j]? = some x → w.cell? ⟨g, 0 + j, none⟩ = some x := fun j x hx => by
      rw [cell_of_row w g (0 + j) cur 58 (0, 0) hg]
      rw [← h4] at hx
      have hj : j < l.length * 2 := by
        rcases Nat.lt_or_ge j (l.length * 2) with c | c
        · exact c
        · rw [List.getElem?_eq_none (by rw [List.length_take]; omega)] at hx; cases hx
      rw [List.getElem?_take_of_lt hj] at hx
      rw [Nat.zero_add, ← Array.getElem?_toList]
      exact hx
    exact ⟨hcell _ _ hc.1, by have := hcell _ _ hc.2; simpa [Nat.add_assoc] using this⟩
theorem New.appended {w wr w1 : World} {e : TypeId} {size : Nat} {v : Value} {n : Nat} {xs : List Value} {o : Obj} (hF : New w wr) (hO : wr.ownsRow w.heap.size e size v n xs) (hg : (wr.alloc o).grownBy w1 v.ownBlock) : New w w1 :=
  (Fr.alloc hF o).grown hg fun k ek => .inr (hO.lt k ek).1
theorem OwnT.snoc {base : Nat} {w : World} {v : Value} {l : List Pl.T} {x y : Int} (h : w.ownsRow base 58 2 v (l.length + 1) (cellsT l ++ [.int .i64 x, .int .i64 y])) : OwnT base w v (l ++ [(x, y)]) := by
  unfold OwnT
  have e1 : (l ++ [(x, y)]).length = l.length + 1 := by simp
  rw [e1, cellsT_app]; exact h
theorem cell_two_new (w : World) (x y : Value) (t : TypeId) : ∀ j u, [x, y][j]? = some u → (w.alloc (.cells #[x, y] t)).cell? ((⟨w.heap.size, 0, none⟩ : Addr).add j) = some u := by
  intro j u hj
  have hg : (w.alloc (.cells #[x, y] t)).heap[w.heap.size]? = some (.cells #[x, y] t (0, 0)) := heap_alloc_new w _
  match j, hj with
  | 0, hj => exact (cell_of_row _ _ 0 _ t (0, 0) hg).trans (by simpa using hj)
  | 1, hj => exact (cell_of_row _ _ 1 _ t (0, 0) hg).trans (by simpa using hj)
theorem two_ints (x y : Int) : ∀ u ∈ [Value.int .i64 x, Value.int .i64 y], u.oneCell' = true := by simp [Value.oneCell']

/- what a call of a polynomial's function gives -/
def GaveT (l : List Pl.T) (w : World) (e : Ending) (w' : World) : Prop := ∃ v, e = .returned v ∧ Ts w' v l ∧ New w w'

theorem info26 : (Tryd.prog.info? 58).map (fun i => (i.zero, i.size, i.bytes)) = some (some (.agg #[.int .i64 0, .int .i64 0]), 2, 16) := by kernel_rfl

end Go.Proofs.YteedpdlibhjhpaaDoor

/- Maps of coefficients: words. -/
namespace Go.Proofs.YteedpdlibhjhpaaDoor
open Go.RowKit

theorem law3 : Maps.Keyed Tryd.prog 3 := Maps.int_keyed Tryd.underlying3
theorem zero3 (w : World) : (zeroValue 3).run Tryd.prog w = .ok (.int .i64 0) w := by kernel_rfl
theorem ul45 : Tryd.prog.underlying 53 = some (.map 3 3) := by kernel_rfl

/- a datum that reads as the coefficients of a list -/
structure RD (D : DataW Unit) (l : List Pl.T) : Prop where
  isMap : Maps.IsMap D
  val : ∀ e, D.atKey (.int .i64 e) (.lit (.int .i64 0)) = .lit (.int .i64 (Pl.co l e))
  key : ∀ e, Maps.has D (.int .i64 e) = true → ∃ t ∈ l, t.1 = e
theorem RD.empty : RD (.map []) [] := ⟨Maps.isMap_empty, fun _ => rfl, fun e h => by cases h⟩
theorem RD.put {D : DataW Unit} {l : List Pl.T} (h : RD D l) {e c v : Int} (hv : v = Pl.co l e + c) : RD (D.put (.int .i64 e) (.lit (.int .i64 v))) (l ++ [(e, c)]) := by
  have hk : WideAt.IsKeyLit (.int .i64 e) := trivial
  refine ⟨h.isMap.put _ _, fun x => ?_, fun x hx => ?_⟩
  · by_cases c0 : x = e
    · subst c0
      rw [Maps.atKey_put_same h.isMap hk, Pl.co_app, Pl.co_cons, Pl.co_nil, if_pos rfl, hv]; simp
    · have hne : (Lit.int .i64 x) ≠ .int .i64 e := fun z => c0 (by injection z)
      rw [Maps.atKey_put_other hne, h.val, Pl.co_app, Pl.co_cons, Pl.co_nil, if_neg fun z => c0 z.symm]; simp
  · by_cases c0 : x = e
    · exact ⟨(e, c), by simp, c0.symm⟩
    · have hne : (Lit.int .i64 x) ≠ .int .i64 e := fun z => c0 (by injection z)
      rw [Maps.has_put_other hne] at hx
      obtain ⟨t, ht, he⟩ := h.key x hx
      exact ⟨t, by simp [ht], he⟩
theorem RD.congr {D : DataW Unit} {l l' : List Pl.T} (h : RD D l) (hc : ∀ e, Pl.co l e = Pl.co l' e) (hk : ∀ t ∈ l, ∃ u ∈ l', u.1 = t.1) : RD D l' :=
  ⟨h.isMap, fun e => by rw [h.val, hc], fun e he => by
    obtain ⟨t, ht, rfl⟩ := h.key e he
    exact hk t ht⟩
theorem RD.not_has {D : DataW Unit} {l : List Pl.T} (h : RD D l) {e : Int} (he : Maps.has D (.int .i64 e) = false) : Pl.co l e = 0 := by
  have := h.val e
  rw [Maps.atKey_of_not_has he] at this
  injection this with this
  injection this with _ this
  exact this.symm
theorem RD.start {D : DataW Unit} {l : List Pl.T} (h : RD D l) : Pl.Part l (fun e => Maps.has D (.int .i64 e)) [] := Pl.Part.start fun _ he => h.not_has he
theorem RD.at {D : DataW Unit} {l : List Pl.T} (h : RD D l) {x c : Int} (hat : ∀ zd, D.atKey (.int .i64 x) zd = .lit (.int .i64 c)) : c = Pl.co l x ∧ ∃ t ∈ l, t.1 = x := by
  refine ⟨?_, h.key x (Maps.has_true_of_atKey hat)⟩
  have := hat (.lit (.int .i64 0))
  rw [h.val] at this
  injection this with this
  injection this with _ this
  exact this.symm
theorem RD.look {D : DataW Unit} {l : List Pl.T} (h : RD D l) {x c : Int} (hat : D.atKey (.int .i64 x) (.lit (.int .i64 0)) = .lit (.int .i64 c)) : c = Pl.co l x := by
  rw [h.val] at hat
  injection hat with hat
  injection hat with _ hat
  exact hat.symm
theorem look_bd {D : DataW Unit} {l : List Pl.T} (h : RD D l) {x c q y : Int} (hq : q = Pl.co l x) (hat : D.atKey (.int .i64 x) (.lit (.int .i64 0)) = .lit (.int .i64 c))
    (z1 : -1000000000000000000 ≤ q + y) (z2 : q + y ≤ 1000000000000000000) (z5 : -1000000000000000000 ≤ q) (z6 : q ≤ 1000000000000000000) :
    Hid (c = q) ∧ -1000000000000000000 ≤ c ∧ c ≤ 1000000000000000000 ∧ -1000000000000000000 ≤ c + y ∧ c + y ≤ 1000000000000000000 := by
  have e : c = q := by rw [hq]; exact h.look hat
  exact ⟨Lib.hid e, by rw [e]; exact z5, by rw [e]; exact z6, by rw [e]; exact z1, by rw [e]; exact z2⟩
theorem sameKey_i64 (x e : Int) : (Lit.int .i64 e).sameKey (.int .i64 x) = decide (e = x) := by simp [Lit.sameKey]

abbrev OM (w : World) (b n : Nat) (D : DataW Unit) : Prop := w.ownsMap Tryd.prog 3 (plainElem Tryd.prog 3) b n D
/- a polynomial at work: a map that reads as the list l, of at most n entries -/
def Wk (w : World) (v : Value) (l : List Pl.T) (n : Nat) : Prop := ∃ b D, v = .map (some b) ∧ OM w b n D ∧ RD D l
theorem New.om {w w' : World} (h : New w w') {b n : Nat} {D : DataW Unit} (ho : OM w b n D) : OM w' b n D := by
  obtain ⟨es, clock, hb, r⟩ := ho
  exact ⟨es, clock, (h.block b (Array.getElem?_eq_some_iff.1 hb).1 (fun x => x)).trans hb, r⟩
theorem New.wk {w w' : World} (h : New w w') {v : Value} {l : List Pl.T} {n : Nat} (hw : Wk w v l n) : Wk w' v l n := by
  obtain ⟨b, D, rfl, ho, hr⟩ := hw
  exact ⟨b, D, rfl, h.om ho, hr⟩
theorem OM.size {w : World} {b n : Nat} {D : DataW Unit} (ho : OM w b n D) : Maps.size D ≤ n := by
  obtain ⟨es, clock, hb, hf, hn, rfl⟩ := ho
  rw [Maps.size_eq, length_sorted]
  simpa using hn
def GaveW (l : List Pl.T) (n : Nat) (w : World) (e : Ending) (w' : World) : Prop := ∃ v, e = .returned v ∧ Wk w' v l n ∧ New w w'

theorem take_getD {l : List Pl.T} {k : Nat} (hk : k < l.length) : l.take (k + 1) = l.take k ++ [((l.getD k (0, 0)).1, (l.getD k (0, 0)).2)] := by
  rw [List.take_succ_eq_append_getElem hk, List.getD_eq_getElem?_getD, List.getElem?_eq_getElem hk]; rfl
theorem size_take (l : List Pl.T) (k : Nat) : Pl.size (l.take k) ≤ Pl.size l := by
  conv => rhs; rw [← List.take_append_drop k l, Pl.size_app]
  omega
def Exps (N : Int) (l : List Pl.T) : Prop := ∀ t ∈ l, -N ≤ t.1 ∧ t.1 ≤ N

end Go.Proofs.YteedpdlibhjhpaaDoor

/- Walks: Plus. -/
namespace Go.Proofs.YteedpdlibhjhpaaDoor
open Go.RowKit

theorem cloneW_any (b n : Nat) (D : DataW Unit) (w : World) (hown : OM w b n D) :
    Calls Tryd.prog 45 #[.map (some b)] w fun e w' => e = .returned (.map (some w.heap.size)) ∧ OM w' w.heap.size n D ∧ OM w' b n D ∧ Below w.heap.size w w' :=
  AnyW.maps_Clone_owns Tryd.cloneA 3 _ b n D w hown

abbrev RG (w : World) (b r n : Nat) (D : DataW Unit) (left : Lit → Bool) (cnt : Nat) : Prop := w.ranges Tryd.prog 3 (plainElem Tryd.prog 3) b r n D left cnt
/- how far a range over a map that reads as l has come: done -/
structure Rng (w : World) (b r n : Nat) (D : DataW Unit) (l : List Pl.T) (left : Lit → Bool) (cnt : Nat) (done : List Pl.T) : Prop where
  rg : RG w b r n D left cnt
  part : Pl.Part l (fun e => left (.int .i64 e)) done
theorem Rng.size {w : World} {b r n : Nat} {D : DataW Unit} {l : List Pl.T} {left : Lit → Bool} {cnt : Nat} {done : List Pl.T} (h : Rng w b r n D l left cnt done) : Pl.size done ≤ Pl.size l := h.part.size_le
theorem Rng.kept {w w' : World} {row : Option Nat} {b r n : Nat} {D : DataW Unit} {l : List Pl.T} {left : Lit → Bool} {cnt : Nat} {done : List Pl.T} (h : Rng w b r n D l left cnt done) (hg : w.grownBy w' row) (hb : some b ≠ row) (hr : some r ≠ row) : Rng w' b r n D l left cnt done :=
  ⟨h.rg.kept hg hb hr, h.part⟩
theorem Rng.start {w : World} {b r n : Nat} {D : DataW Unit} {l : List Pl.T} {cnt : Nat} (hD : RD D l) (h : RG w b r n D (Maps.has D) cnt) : Rng w b r n D l (Maps.has D) cnt [] := ⟨h, hD.start⟩
theorem Rng.step {w w' : World} {b r n : Nat} {D : DataW Unit} {l : List Pl.T} {left : Lit → Bool} {cnt cnt' : Nat} {done : List Pl.T} {x c : Int} (hD : RD D l) (h : Rng w b r n D l left cnt done) (hlx : left (.int .i64 x) = true) (hat : ∀ zd, D.atKey (.int .i64 x) zd = .lit (.int .i64 c))
    (hr : RG w' b r n D (fun z => left z && !z.sameKey (.int .i64 x)) cnt') : Rng w' b r n D l (fun z => left z && !z.sameKey (.int .i64 x)) cnt' (done ++ [(x, c)]) := by
  obtain ⟨h1, h2⟩ := hD.at hat
  exact ⟨hr, h.part.step hlx (fun _ => by simp only [sameKey_i64]) h1 h2⟩
theorem Rng.all {w : World} {b r n : Nat} {D : DataW Unit} {l : List Pl.T} {left : Lit → Bool} {cnt : Nat} {done : List Pl.T} (h : Rng w b r n D l left cnt done) (hl : ∀ kl, left kl = false) : ∀ e, Pl.co done e = Pl.co l e := h.part.all' fun _ => hl _

/- the slots of a key and a value in a list of bounds -/
theorem snoc_bd {l : List Pl.T} {S : Nat} {x c : Int} (h : Pl.size (l ++ [(x, c)]) ≤ S) : -(S : Int) ≤ Pl.co l x + c ∧ Pl.co l x + c ≤ S ∧ -(S : Int) ≤ Pl.co l x ∧ Pl.co l x ≤ S := by
  have h1 := Pl.co_le' h x
  rw [Pl.co_app, Pl.co_cons, Pl.co_nil, if_pos rfl, Int.add_zero] at h1
  rw [Pl.size_app] at h
  have h2 := Pl.co_le' (l := l) (S := S) (by omega) x
  exact ⟨h1.1, h1.2, h2.1, h2.2⟩

set_option maxRecDepth 100000 in
set_option maxHeartbeats 1000000 in
theorem plusW_any (va vb : Value) (la lb : List Pl.T) (na nb : Nat) (w : World) (ha : Wk w va la na) (hb : Wk w vb lb nb) (hn : na + nb ≤ 1000000) (he : Exps 1000000000 lb) (hs : Pl.size la + Pl.size lb ≤ 1000000000000000000) :
    Calls Tryd.prog 32 #[va, vb] w (GaveW (la ++ lb) (na + nb) w) := by
  obtain ⟨b, D, rfl, ho, hd⟩ := ha
  obtain ⟨b', D', rfl, ho', hd'⟩ := hb
  have hc := cloneW_any b na D w ho
  have hlt := ho.lt
  have hlt' := ho'.lt
  have HO' := Lib.hid ho'
  have HD := Lib.hid hd
  have HD' := Lib.hid hd'
  have HE := Lib.hid he
  have HS := Lib.hid hs
  have HC := Lib.hid hc
  have HZ := Lib.hid ho'.size
  clear ho ho' hd hd' he hs hc
  go_enter Tryd.func32, Tryd.ntmps32
  go_wp2_with fail
  obtain ⟨B, HB⟩ : ∃ B, Hid (B = w.heap.size) := ⟨_, Lib.hid rfl⟩
  refine HC.out.mono ?_
  rw [← HB.out]
  rintro e w1 ⟨rfl, h1, _, hB⟩
  have HF1 : Hid (New w w1) := Lib.hid (Fr.ofBelow (by rw [HB.out] at hB; exact hB) _)
  have HO1 := Lib.hid h1
  have HO'1 := Lib.hid (New.om HF1.out HO'.out)
  obtain ⟨r, HR⟩ : ∃ r, Hid (r = w1.heap.size) := ⟨_, Lib.hid rfl⟩
  clear h1 hB
  go_wp2_with (first
    | (at_range; refine wpList_range_own _ rfl _ 53 rfl 3 3 law3 ul45 _ b' nb _ rfl HO'1.out ?_; intro w0 hrg0 hg0 hs0)
    | go_in)
  go_frame
  rw [← HR.out] at hrg0 hs0 ⊢
  have HF0 : Hid (New w w0) := Lib.hid (HF1.out.grown hg0 fun k ek => by cases ek)
  have HO0 : Hid (OM w0 B na D) := Lib.hid (HO1.out.kept hg0 (by simp))
  have HR0 := Lib.hid (Rng.start HD'.out hrg0)
  have hrB : B ≠ r := by
    rw [HR.out]
    have := HO1.out.lt
    omega
  have hbB : b' ≠ B := by rw [HB.out]; omega
  clear hrg0 hg0 hs0
  go_loopw [6, 7] (fun _ _ wr => ∃ (left : Lit → Bool) (cnt m : Nat) (Dout : DataW Unit) (done : List Pl.T), m + cnt ≤ na + nb ∧ Hid (Rng wr b' r nb D' lb left cnt done) ∧ Hid (OM wr B m Dout) ∧ Hid (RD Dout (la ++ done)) ∧ Hid (New w wr))
    (fun _ _ wr => wr.rangeLeft b' r)
  case atStart => exact ⟨_, _, na, D, [], by have := HZ.out; omega, HR0, HO0, Lib.hid (by rw [List.append_nil]; exact HD.out), HF0⟩
  case round =>
    obtain ⟨left, cnt, m, Dout, done, hm, HRg, HO, HDo, HF⟩ := hrel
    go_wp2_with (first
      | (at_next; refine wpList_next_ranges_ii _ rfl _ rfl 3 3 .i64 .i64 law3 Tryd.underlying3 Tryd.underlying3 b' r nb _ _ _ rfl HRg.out.rg ?_ ?_)
      | go_in)
    · intro hc0 hl0
      have HL0 := Lib.hid hl0
      clear hl0
      go_wp2
      go_ret
      exact ⟨_, rfl, ⟨_, Dout, rfl, HO.out.mono (by omega), HDo.out.congr (fun e => by rw [Pl.co_app, Pl.co_app, HRg.out.all HL0.out]) (Pl.app_exps (Pl.same_exps la) HRg.out.part.exps)⟩, HF.out⟩
    · intro x c w2 cnt1 hwx hwc hlx hat hrg1 hlt hg1 hs1 hen
      have HR1 : Hid (Rng w2 b' r nb D' lb (fun z => left z && !z.sameKey (.int .i64 x)) cnt1 (done ++ [(x, c)])) := Lib.hid (HRg.out.step HD'.out hlx hat hrg1)
      have HO1' : Hid (OM w2 B m Dout) := Lib.hid (HO.out.kept hg1 (by simpa using hrB))
      have HF1' : Hid (New w w2) := Lib.hid (HF.out.grown hg1 fun k ek => .inr (by cases ek; rw [HR.out]; exact HF1.out.size))
      obtain ⟨u, hu, hux⟩ := HR1.out.part.exps (x, c) (by simp)
      have hxe := HE.out u hu
      rw [hux] at hxe
      have hsz : Pl.size ((la ++ done) ++ [(x, c)]) ≤ 1000000000000000000 := by
        rw [List.append_assoc, Pl.size_app]
        have := HR1.out.size
        have := HS.out
        omega
      have hbd := snoc_bd hsz
      obtain ⟨q, HQ⟩ : ∃ q, Hid (q = Pl.co (la ++ done) x) := ⟨_, Lib.hid rfl⟩
      rw [← HQ.out] at hbd
      have z1 : -1000000000000000000 ≤ q + c := by omega
      have z2 : q + c ≤ 1000000000000000000 := by omega
      have z5 : -1000000000000000000 ≤ q := by omega
      have z6 : q ≤ 1000000000000000000 := by omega
      have x1 : -1000000000 ≤ x := hxe.1
      have x2 : x ≤ 1000000000 := hxe.2
      have HLT := Lib.hid hlt
      clear hwx hwc hlx hat hrg1 hg1 hs1 hu hux hxe hsz hbd hlt
      go_wp2_with (first
        | (at_lookup; refine wpList_lookup_own_int _ rfl _ _ 53 rfl 3 3 .i64 law3 ul45 Tryd.underlying3 (zero3 _) B m _ rfl HO1'.out _ _ rfl (Maps.keyOf_int_mk Tryd.underlying3 (wf64 (by omega))) ?_; intro cc hat hwc; obtain ⟨HCC, c1, c2, c3, c4⟩ := look_bd HDo.out HQ.out hat z1 z2 z5 z6; have c5 : -2000000000000000000 ≤ c := (by omega); have c6 : c ≤ 2000000000000000000 := (by omega); clear hat hwc)
        | (at_mapUpdate; refine wpList_mapUpdate_own _ rfl _ _ _ 53 rfl 3 3 law3 ul45 _ B m _ rfl HO1'.out (by unfold maxLen; omega) _ _ _ rfl rfl (Maps.keyOf_int_mk Tryd.underlying3 (wf64 (by omega))) _ [] (plainElem_int Tryd.underlying3 (wf64 (by omega))) ?_; intro w3 hown2 hg2; go_frame)
        | go_in)
      have HO2 := Lib.hid hown2
      have HR2 := Lib.hid (HR1.out.kept hg2 (by simpa using hbB) (by simpa using hrB.symm))
      have HF2 : Hid (New w w3) := Lib.hid (HF1'.out.grown hg2 fun k ek => .inr (by cases ek; rw [HB.out]; exact Nat.le_refl _))
      clear hown2 hg2
      go_roundw
      case rel => exact ⟨_, cnt1, m + 1, _, _, by have := HLT.out; omega, HR2, HO2, Lib.hid (by rw [← List.append_assoc]; exact RD.put HDo.out (by rw [HCC.out, HQ.out])), HF2⟩
      case measure => rw [HR2.out.rg.left_eq, HRg.out.rg.left_eq]; exact HLT.out
end Go.Proofs.YteedpdlibhjhpaaDoor
