/- Words for sumTwo: terms put behind a row. -/
import Derived.Laws.AppendOwnNone
import Derived.Test.YtlicglicfijelaaS2
import Derived.Test.YtlicglicfijelaaK5
/- Words for sumTwo: terms put behind a row. -/
namespace Go.Proofs.Ytlicglicfijelaa
open Go.RowKit
open Kn (E2 L2)

theorem one_terms (l : L2) : ∀ u ∈ tcells l, u.oneCell' = true := by
  intro u hu
  unfold tcells at hu
  obtain ⟨t, _, h⟩ := List.mem_flatMap.1 hu
  exact one_three _ _ _ u h
theorem tcells_app (l m : L2) : tcells (l ++ m) = tcells l ++ tcells m := by unfold tcells; rw [List.flatMap_append]
/- 'append(out, some terms...)', whatever the terms' slice is -/
theorem wpList_append_terms {ops : Array Oper} {rest : List Oper} {o : Oper} {a : Act} {Q : Exit → Act → World → Prop} (w : World) (hgd : o.guard = none) (s x : Operand)
    (ho : o.op = .call { callee := .builtin .append, args := #[s, x], argTypes := #[25, 25] }) (base n : Nat) (v : Value) (lo : L2) (hs : a.eval s = v) (hown : w.ownsRow base 33 3 v n (tcells lo)) (hn : n = lo.length)
    (ao : Option Addr) (m c : Nat) (ls : L2) (hx : a.eval x = .slice ao m c) (hm : m = ls.length) (hnone : ao = none → c = 0 ∧ ls = []) (hcells : ∀ ad, ao = some ad → ∀ j u, (tcells ls)[j]? = some u → w.cell? (ad.add j) = some u) (hb : n + m ≤ 3000000) (hbase : base ≤ w.heap.size)
    (h : ∀ a3 c3 w', w'.ownsRow base 33 3 (.slice a3 (n + m) c3) (n + m) (tcells (lo ++ ls)) → w.grownBy w' v.ownBlock → wpList Try.prog ops Q rest (a.put o.dst (.slice a3 (n + m) c3)) w') : wpList Try.prog ops Q (o :: rest) a w := by
  obtain ⟨i0, hi, hz0, hz1, hz2⟩ := info_parts Try.info33
  cases ao with
  | none =>
    obtain ⟨rfl, rfl⟩ := hnone rfl
    obtain rfl : m = 0 := hm
    refine wpList_append_own_none hgd s x 25 ho base 33 i0 3 Try.underlying25 hi v n (tcells lo) hs hown hx ?_
    obtain ⟨a3, c3, rfl, _⟩ := own_shape2 hown
    exact h a3 c3 w (by rw [List.append_nil]; exact hown) ⟨rfl, rfl, rfl, Nat.le_refl _, fun _ _ _ => rfl⟩
  | some ad =>
    refine wpList_append_own w hgd s x 25 ho base 33 i0 (.agg #[.int .i64 0, .int .i64 0, .int .i64 0]) 3 24 Try.underlying25 hi hz0 hz1 hz2 rfl (by decide) v n (tcells lo) hs hown ad m c (tcells ls) hx (by rw [tcells_length, hm]) (hcells ad rfl) (one_terms ls) (by unfold maxLen; omega) (by omega) hbase ?_
    intro v' w' h1 h2 _
    obtain ⟨a3, c3, rfl, _⟩ := own_shape2 h1
    exact h a3 c3 w' (by rw [tcells_app]; exact h1) h2
end Go.Proofs.Ytlicglicfijelaa

/- Words for sumTwo: parts of a row of terms. -/
namespace Go.Proofs.Ytlicglicfijelaa
open Go.RowKit
open Kn (E2 L2)

theorem trow_nil {w : World} {base n c : Nat} {a : Option Addr} {lo : L2} (h : w.ownsRow base 33 3 (.slice a n c) n (tcells lo)) (hn : n = lo.length) : a = none → c = 0 ∧ lo = [] := by
  rintro rfl
  rcases h.2 with ⟨e, h0⟩ | ⟨g, cap, cur, e, _⟩
  · injection e with _ e2 e3
    refine ⟨e3, List.eq_nil_of_length_eq_zero (by omega)⟩
  · cases e
theorem trow_part {w : World} {base n c k : Nat} {a : Option Addr} {lo ls r : L2} (h : w.ownsRow base 33 3 (.slice a n c) n (tcells lo)) (hk : k * 3 = (tcells r).length) (he : ∃ s, lo = r ++ ls ++ s) :
    ∀ ad, a = some ad → ∀ j u, (tcells ls)[j]? = some u → w.cell? (ad.add (k * 3 + j)) = some u := by
  rintro ad rfl j u hj
  obtain ⟨s, rfl⟩ := he
  rcases h.2 with ⟨e, _⟩ | ⟨g, cap, cur, e, _⟩
  · cases e
  · injection e with e1 _ _
    injection e1 with e1
    subst e1
    refine World.ownsRow.cells h (g := g) rfl (k * 3 + j) u ?_
    have hl := (List.getElem?_eq_some_iff.1 hj).1
    rw [tcells_app, tcells_app, List.append_assoc, List.getElem?_append_right (by omega), show k * 3 + j - (tcells r).length = j by omega, List.getElem?_append_left hl]
    exact hj
theorem trow_take {w : World} {base n c : Nat} {a : Option Addr} {lo : L2} (h : w.ownsRow base 33 3 (.slice a n c) n (tcells lo)) (k : Nat) :
    ∀ ad, a = some ad → ∀ j u, (tcells (lo.take k))[j]? = some u → w.cell? (ad.add j) = some u := fun ad ea j u hj => by
  have := trow_part (k := 0) (r := []) (ls := lo.take k) h rfl ⟨lo.drop k, by rw [List.nil_append, List.take_append_drop]⟩ ad ea j u hj
  rwa [Nat.zero_mul, Nat.zero_add] at this
theorem trow_drop {w : World} {base n c k : Nat} {a : Option Addr} {lo : L2} (h : w.ownsRow base 33 3 (.slice a n c) n (tcells lo)) (hk : k ≤ lo.length) :
    ∀ ad, a = some ad → ∀ j u, (tcells (lo.drop k))[j]? = some u → w.cell? (ad.add (k * 3 + j)) = some u :=
  trow_part (r := lo.take k) h (by rw [tcells_length, List.length_take]; congr 1; omega) ⟨[], by rw [List.append_nil, List.take_append_drop]⟩
end Go.Proofs.Ytlicglicfijelaa
