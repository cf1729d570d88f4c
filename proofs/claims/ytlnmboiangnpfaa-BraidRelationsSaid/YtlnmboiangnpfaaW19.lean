/- Walks: rows that a literal makes. -/
import Derived.Test.YtlnmboiangnpfaaW17
import Derived.Test.YtlnmboiangnpfaaW18
import Derived.Test.YtlnmboiangnpfaaMRel
namespace Go.Proofs.Ytlnmboiangnpfaa
open Go.RowKit

theorem lit_ints (w : World) (xs : List Int) (t : TypeId) : IntsAt (w.alloc (.cells (ints xs).toArray t)) (some ⟨w.heap.size, 0, none⟩) xs := by
  refine .inr ⟨w.heap.size, 0, rfl, fun i hi => ?_⟩
  rw [Nat.zero_add]
  have e : (ints xs)[i]? = some (.int .i64 (xs.getD i 0)) := by
    rw [ints, List.getElem?_map, List.getElem?_eq_getElem hi]
    simp [List.getD_eq_getElem?_getD, List.getElem?_eq_getElem hi]
  simp [World.cell?_alloc_new, e]
theorem lit_ints' (w : World) (xs : List Int) (t : TypeId) (g : Nat) (hg : g = w.heap.size) : IntsAt (w.alloc (.cells (ints xs).toArray t)) (some ⟨g, 0, none⟩) xs := by
  subst hg; exact lit_ints w xs t
theorem near_test (A B : Nat) : ((A : Int) - B == 1 || (A : Int) - B == -1) = Bd.near A B := by
  rw [Bool.eq_iff_iff]
  simp only [Bd.near, Bool.or_eq_true, beq_iff_eq]
  omega
theorem near_t {A B : Nat} (b : Bool) (h : b = true ↔ ((A : Int) - B = 1 ∨ (A : Int) - B = -1)) : Value.bool b = .bool (Bd.near A B) := by
  rw [← near_test]
  congr 1
  rw [Bool.eq_iff_iff, h]
  simp only [Bool.or_eq_true, beq_iff_eq]
theorem alloc_new (w : World) (o : Obj) : New w (w.alloc o) := (Fr.refl _ _).alloc o

theorem lit_tab (w : World) (cs : List (Option Addr × Nat)) (T : List (List Int)) (t : TypeId) (h : ∀ k, k < T.length → ∃ a c, cs[k]? = some (a, c) ∧ IntsAt w a (T.getD k [])) (vs : List Value) (hv : ∀ k, k < T.length → ∃ a c, cs[k]? = some (a, c) ∧ vs[k]? = some (.slice a (T.getD k []).length c)) :
    TabR (w.alloc (.cells vs.toArray t)) (some ⟨w.heap.size, 0, none⟩) T := by
  refine .inr ⟨w.heap.size, 0, rfl, fun k hk => ?_⟩
  obtain ⟨a, c, e1, h1⟩ := h k hk
  obtain ⟨a', c', e2, h2⟩ := hv k hk
  rw [e1] at e2
  cases e2
  refine ⟨a, c, ?_, New.ints (alloc_new _ _) h1⟩
  rw [Nat.zero_add]
  simp [World.cell?_alloc_new, h2]
theorem lit_tab2 (w : World) {A B : Option Addr} {x y : List Int} {l1 l2 : Nat} (c1 c2 : Nat) (t : TypeId) (e1 : l1 = x.length) (e2 : l2 = y.length) (h1 : IntsAt w A x) (h2 : IntsAt w B y) :
    TabR (w.alloc (.cells #[.slice A l1 c1, .slice B l2 c2] t)) (some ⟨w.heap.size, 0, none⟩) [x, y] := by
  subst e1; subst e2
  refine lit_tab w [(A, c1), (B, c2)] [x, y] t (fun k hk => ?_) [.slice A x.length c1, .slice B y.length c2] (fun k hk => ?_) <;>
    match k, hk with
    | 0, _ => exact ⟨A, c1, rfl, by first | exact h1 | rfl⟩
    | 1, _ => exact ⟨B, c2, rfl, by first | exact h2 | rfl⟩
theorem lit_tab2' (w : World) {A B : Option Addr} {x y : List Int} {l1 l2 : Nat} (c1 c2 : Nat) (t : TypeId) (g : Nat) (hg : g = w.heap.size) (e1 : l1 = x.length) (e2 : l2 = y.length) (h1 : IntsAt w A x) (h2 : IntsAt w B y) :
    TabR (w.alloc (.cells #[.slice A l1 c1, .slice B l2 c2] t)) (some ⟨g, 0, none⟩) [x, y] := by
  subst hg; exact lit_tab2 w c1 c2 t e1 e2 h1 h2
theorem lit_tab3 (w : World) {A B C : Option Addr} {x y z : List Int} {l1 l2 l3 : Nat} (c1 c2 c3 : Nat) (t : TypeId) (e1 : l1 = x.length) (e2 : l2 = y.length) (e3 : l3 = z.length) (h1 : IntsAt w A x) (h2 : IntsAt w B y) (h3 : IntsAt w C z) :
    TabR (w.alloc (.cells #[.slice A l1 c1, .slice B l2 c2, .slice C l3 c3] t)) (some ⟨w.heap.size, 0, none⟩) [x, y, z] := by
  subst e1; subst e2; subst e3
  refine lit_tab w [(A, c1), (B, c2), (C, c3)] [x, y, z] t (fun k hk => ?_) [.slice A x.length c1, .slice B y.length c2, .slice C z.length c3] (fun k hk => ?_) <;>
    match k, hk with
    | 0, _ => exact ⟨A, c1, rfl, by first | exact h1 | rfl⟩
    | 1, _ => exact ⟨B, c2, rfl, by first | exact h2 | rfl⟩
    | 2, _ => exact ⟨C, c3, rfl, by first | exact h3 | rfl⟩

/- an own row, seen: nil, or a block with room -/
theorem Own.seen {base : Nat} {w : World} {v : Value} {xs : List Int} (h : Own base w v xs) : (v = .slice none 0 0 ∧ xs = []) ∨ ∃ g c, v = .slice (some ⟨g, 0, none⟩) xs.length c ∧ xs.length ≤ c ∧ c ≤ maxLen ∧ IntsAt w (some ⟨g, 0, none⟩) xs := by
  rcases h.2 with ⟨rfl, h0⟩ | ⟨g, cap, cur, rfl, hb, hg, hn, hc, hs, ht⟩
  · exact .inl ⟨rfl, List.length_eq_zero_iff.1 h0⟩
  · obtain ⟨a, c, e, hi, _⟩ := IntsAt.of_owns h
    cases e
    exact .inr ⟨g, cap, rfl, hn, hc, hi⟩
theorem IntsAt.take {w : World} {a : Option Addr} {xs : List Int} (h : IntsAt w a xs) (k : Nat) : IntsAt w a (xs.take k) := by
  rcases h with rfl | ⟨b, o, rfl, hc⟩
  · exact .inl (by simp)
  · refine .inr ⟨b, o, rfl, fun i hi => ?_⟩
    rw [List.length_take] at hi
    rw [hc i (by omega)]
    simp [List.getD_eq_getElem?_getD, show i < k from by omega]
theorem IntsAt.take_ {w : World} {a : Option Addr} {xs : List Int} (h : IntsAt w a xs) {k : Nat} : IntsAt w a (xs.take k) := h.take k
theorem IntsAt.drop {w : World} {b o : Nat} {xs : List Int} (h : IntsAt w (some ⟨b, o, none⟩) xs) (k : Nat) : IntsAt w (some ⟨b, o + k, none⟩) (xs.drop k) := by
  rcases h with rfl | ⟨b', o', e, hc⟩
  · exact .inl (by simp)
  · cases e
    refine .inr ⟨b, o + k, rfl, fun i hi => ?_⟩
    rw [List.length_drop] at hi
    rw [Nat.add_assoc, hc (k + i) (by omega)]
    simp [List.getD_eq_getElem?_getD, List.getElem?_drop]
end Go.Proofs.Ytlnmboiangnpfaa
