/- Words for renamed: rows in which two values are turned. -/
import Derived.Test.YtgjmjbgicfkojaaW34
import Derived.Test.YtgjmjbgicfkojaaW27
namespace Go.Proofs.Ytgjmjbgicfkojaa
open Go.RowKit

/- two numbers of a row turned -/
theorem rowIs_swap {w : World} {b m : Nat} {t : Nat → Nat} (h : w.rowIs b 3 m (numFn t)) (x y : Nat) :
    ((w.setCell ⟨b, x, none⟩ (.int .i64 (t y : Nat))).setCell ⟨b, y, none⟩ (.int .i64 (t x : Nat))).rowIs b 3 m (numFn fun a => t (Kn.swp x y a)) := by
  refine rowIs_congr (rowIs_setN (rowIs_setN h x (t y)) y (t x)) fun j _ => ?_
  show Value.int .i64 ((t (Kn.swp x y j) : Nat) : Int) = Value.int .i64 ((if j = y then t x else if j = x then t y else t j : Nat) : Int)
  by_cases c : j = x
  · subst c
    rw [Kn.swp_a, if_pos rfl]
    by_cases d : j = y
    · subst d; rw [if_pos rfl]
    · rw [if_neg d]
  · by_cases d : j = y
    · subst d; rw [Kn.swp_b, if_pos rfl]
    · rw [Kn.swp_ne c d, if_neg d, if_neg c]
/- a cell of an own row -/
theorem own_set {w : World} {base e sz g c n : Nat} {xs : List Value} (h : w.ownsRow base e sz (.slice (some ⟨g, 0, none⟩) n c) n xs) (j : Nat) (v : Value) :
    (w.setCell ⟨g, j, none⟩ v).ownsRow base e sz (.slice (some ⟨g, 0, none⟩) n c) n (xs.set j v) := by
  rcases h.2 with ⟨he, hn⟩ | ⟨g', cap, cur, he, hb, hg, h1, h2, h3, h4⟩
  · cases he
  · injection he with e1 e2 e3
    injection e1 with e1
    injection e1 with e1 _ _
    subst e1
    subst e3
    refine ⟨by rw [List.length_set]; exact h.1, .inr ⟨g, c, cur.setIfInBounds j v, rfl, hb, ?_, h1, h2, by simpa using h3, ?_⟩⟩
    · simp [World.setCell, Array.getElem?_modify, hg]
    · rw [Array.toList_setIfInBounds, ← h4, List.take_set]
theorem own_free {w : World} {base e sz g c n : Nat} {xs : List Value} (h : w.ownsRow base e sz (.slice (some ⟨g, 0, none⟩) n c) n xs) (j : Nat) : w.frozen? ⟨g, j, none⟩ = false := by
  rcases h.2 with ⟨he, hn⟩ | ⟨g', cap, cur, he, hb, hg, _⟩
  · cases he
  · injection he with e1 e2 e3
    injection e1 with e1
    injection e1 with e1 _ _
    subst e1
    simp [World.frozen?, hg]
/- five cells of a row of crossings -/
theorem crCells_set {Y : List Kn.Cr} {k : Nat} (hk : k < Y.length) (x : Kn.Cr) :
    (((((crCells Y).set (k * 5) (.int .i64 x.a)).set (k * 5 + 1) (.int .i64 x.b)).set (k * 5 + 2) (.int .i64 x.c)).set (k * 5 + 3) (.int .i64 x.d)).set (k * 5 + 4) (.bool x.p) = crCells (Y.set k x) := by
  apply List.ext_getElem?
  intro j
  by_cases c : j < Y.length * 5
  · rw [crCells_at (X := Y.set k x) (by rw [List.length_set]; exact c)]
    have hcr : ∀ i, Kn.cr (Y.set k x) i = if i = k then x else Kn.cr Y i := fun i => by
      unfold Kn.cr
      rw [List.getD_eq_getElem?_getD, List.getD_eq_getElem?_getD, List.getElem?_set]
      by_cases e : k = i
      · subst e; simp [hk]
      · rw [if_neg e, if_neg (fun h => e h.symm)]
    have hcells := crCells_at c
    unfold crFn
    rw [hcr]
    simp only [List.getElem?_set, List.length_set, crCells_length]
    by_cases e : j / 5 = k
    · rw [if_pos e]
      obtain ⟨s, hs, rfl⟩ : ∃ s, s < 5 ∧ j = k * 5 + s := ⟨j - k * 5, by omega, by omega⟩
      rw [show (k * 5 + s) % 5 = s by omega]
      match s, hs with
      | 0, _ => simp; omega
      | 1, _ => simp; omega
      | 2, _ => simp; omega
      | 3, _ => simp; omega
      | 4, _ => simp; omega
    · rw [if_neg e, if_neg (by omega), if_neg (by omega), if_neg (by omega), if_neg (by omega), if_neg (by omega), hcells]
      rfl
  · rw [List.getElem?_eq_none (by simp [crCells_length]; omega), List.getElem?_eq_none (by simp [crCells_length]; omega)]
theorem Kn.cr_parts' (X : List Kn.Cr) (k : Nat) : ∃ a b c d p, Hid (Kn.cr X k = ⟨a, b, c, d, p⟩) := ⟨_, _, _, _, _, Lib.hid rfl⟩
/- a crossing written into a row -/
abbrev set5 (w : World) (g j : Nat) (a b c d : Int) (p : Bool) : World := ((((w.setCell ⟨g, j * 5, none⟩ (.int .i64 a)).setCell ⟨g, j * 5 + 1, none⟩ (.int .i64 b)).setCell ⟨g, j * 5 + 2, none⟩ (.int .i64 c)).setCell ⟨g, j * 5 + 3, none⟩ (.int .i64 d)).setCell ⟨g, j * 5 + 4, none⟩ (.bool p)
theorem own_set5 {w : World} {base g c n j : Nat} {Y : List Kn.Cr} (h : w.ownsRow base 42 5 (.slice (some ⟨g, 0, none⟩) n c) n (crCells Y)) (hj : j < Y.length) (x : Kn.Cr) :
    (set5 w g j x.a x.b x.c x.d x.p).ownsRow base 42 5 (.slice (some ⟨g, 0, none⟩) n c) n (crCells (Y.set j x)) := by
  rw [← crCells_set hj x]
  exact own_set (own_set (own_set (own_set (own_set h _ _) _ _) _ _) _ _) _ _
theorem fr_set5 (w : World) (g j : Nat) (a b c d : Int) (p : Bool) : Fr (fun k => k = g) w (set5 w g j a b c d p) :=
  (((((Fr.refl (fun k => k = g) w).setCell (a := ⟨g, j * 5, none⟩) (.inl rfl) _).setCell (a := ⟨g, j * 5 + 1, none⟩) (.inl rfl) _).setCell (a := ⟨g, j * 5 + 2, none⟩) (.inl rfl) _).setCell (a := ⟨g, j * 5 + 3, none⟩) (.inl rfl) _).setCell (a := ⟨g, j * 5 + 4, none⟩) (.inl rfl) _
theorem own_five {w : World} {base g c n : Nat} {Y : List Kn.Cr} (h : w.ownsRow base 42 5 (.slice (some ⟨g, 0, none⟩) n c) n (crCells Y)) (hn : n = Y.length) {j : Nat} (hj : j < Y.length) : CrAt w g (j * 5) (Kn.cr Y j) := by
  subst hn
  obtain ⟨a, c', e, hc⟩ := CrsAt.of_owns h
  cases e
  obtain ⟨b, o, e, hx⟩ := hc.at hj
  cases e
  rwa [Nat.zero_add] at hx
theorem renL_swap {X : List Kn.Cr} {f t : Nat → Nat} {x y : Nat} (hx : x < X.length) (hy : y < X.length) :
    ((Kn.renL X f t).set x (Kn.cr (Kn.renL X f t) y)).set y (Kn.cr (Kn.renL X f t) x) = Kn.renL X (fun a => f (Kn.swp x y a)) t := by
  have hcr : ∀ (Y : List Kn.Cr) (k i : Nat) (z : Kn.Cr), k < Y.length → Kn.cr (Y.set k z) i = if i = k then z else Kn.cr Y i := fun Y k i z hk => by
    unfold Kn.cr
    rw [List.getD_eq_getElem?_getD, List.getD_eq_getElem?_getD, List.getElem?_set]
    by_cases e : k = i
    · subst e; simp [hk]
    · rw [if_neg e, if_neg (fun h => e h.symm)]
  refine List.ext_getElem (by simp [Kn.renL_len]) fun i h1 h2 => ?_
  rw [Kn.renL_len] at h2
  have e : ∀ (Y : List Kn.Cr) (h : i < Y.length), Y[i] = Kn.cr Y i := fun Y h => by unfold Kn.cr; rw [List.getD_eq_getElem?_getD, List.getElem?_eq_getElem h]; rfl
  rw [e, e, hcr _ _ _ _ (by simp [Kn.renL_len]; exact hy), hcr _ _ _ _ (by rw [Kn.renL_len]; exact hx), Kn.renL_cr hx, Kn.renL_cr hy, Kn.renL_cr h2, Kn.renL_cr h2]
  by_cases c : i = y
  · subst c; rw [if_pos rfl, Kn.swp_b]
  · rw [if_neg c]
    by_cases d : i = x
    · subst d; rw [if_pos rfl, Kn.swp_a]
    · rw [if_neg d, Kn.swp_ne d c]
end Go.Proofs.Ytgjmjbgicfkojaa
