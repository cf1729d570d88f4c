/- Words for rows of the call's own, and for slices of slices. -/
import Derived.Test.YtdelekkbkpldjaaDoorW7
namespace Go.Proofs.YtdelekkbkpldjaaDoor
open Go.RowKit

theorem Tryd.info4 : (Tryd.prog.info? 4).map (fun i => (i.zero, i.size, i.bytes)) = some (some (.bool false), 1, 1) := by kernel_rfl
theorem Tryd.info22 : (Tryd.prog.info? 22).map (fun i => (i.zero, i.size, i.bytes)) = some (some (.slice none 0 0), 1, 24) := by kernel_rfl
theorem Tryd.info125 : (Tryd.prog.info? 125).map (fun i => (i.zero, i.size, i.bytes)) = some (some (.slice none 0 0), 1, 24) := by kernel_rfl
/- values and what they stand for, one by one -/
structure Els {α : Type} (R : Value → α → Prop) (vs : List Value) (l : List α) : Prop where
  len : vs.length = l.length
  at_ : ∀ i (h : i < vs.length) (h' : i < l.length), R vs[i] l[i]
section
variable {α : Type} {R R' : Value → α → Prop} {vs : List Value} {l : List α}
theorem Els.nil : Els R [] [] := ⟨rfl, fun i h => by simp at h⟩
theorem Els.mono (h : Els R vs l) (hR : ∀ v x, R v x → R' v x) : Els R' vs l := ⟨h.len, fun i h1 h2 => hR _ _ (h.at_ i h1 h2)⟩
theorem Els.snoc (h : Els R vs l) {v : Value} {x : α} (hx : R v x) : Els R (vs ++ [v]) (l ++ [x]) := by
  refine ⟨by rw [List.length_append, List.length_append, h.len]; rfl, fun i h1 h2 => ?_⟩
  by_cases c : i < l.length
  · rw [List.getElem_append_left (by rw [h.len]; exact c), List.getElem_append_left c]
    exact h.at_ i _ c
  · rw [List.length_append, List.length_singleton] at h2
    have e : i = l.length := by omega
    subst e
    rw [List.getElem_append_right (by rw [h.len]; exact Nat.le_refl _), List.getElem_append_right (Nat.le_refl _)]
    simp only [h.len, Nat.sub_self, List.getElem_cons_zero]
    exact hx
end
def nums (l : List Nat) : List Value := l.map fun n => .int .i64 (n : Nat)
theorem nums_length (l : List Nat) : (nums l).length = l.length := by simp [nums]
theorem nums_snoc (l : List Nat) (x : Nat) : nums (l ++ [x]) = nums l ++ [.int .i64 (x : Nat)] := by simp [nums]
def OwnN (w : World) (v : Value) (l : List Nat) : Prop := w.ownsRow 0 3 1 v l.length (nums l)
/- a row of the call's own whose elements, one cell each, stand for things -/
def Rows {α : Type} (R : World → Value → α → Prop) (base e : Nat) (w : World) (v : Value) (ll : List α) : Prop := ∃ vs, w.ownsRow base e 1 v vs.length vs ∧ Els (R w) vs ll
theorem Rows.nil {α : Type} {R : World → Value → α → Prop} {base e : Nat} {w : World} : Rows R base e w (.slice none 0 0) [] := ⟨[], ⟨rfl, .inl ⟨rfl, rfl⟩⟩, Els.nil⟩
/- rows of different elements lie apart -/
theorem owns_ne {b b' e e' z z' n n' : Nat} {w : World} {v v' : Value} {xs ys : List Value} (h : w.ownsRow b e z v n xs) (h' : w.ownsRow b' e' z' v' n' ys) (hne : e ≠ e') : ∀ k, v.ownBlock = some k → some k ≠ v'.ownBlock := by
  intro k hk
  rcases h.2 with ⟨rfl, _⟩ | ⟨g, cap, cur, rfl, _, hgg, _⟩
  · cases hk
  · rcases h'.2 with ⟨rfl, _⟩ | ⟨g', cap', cur', rfl, _, hgg', _⟩
    · intro z; cases z
    · intro z
      cases hk
      cases z
      rw [hgg] at hgg'
      injection hgg' with hgg'
      injection hgg' with _ he
      exact hne he
theorem owns_kept {b e z n : Nat} {w w' : World} {row : Option Nat} {v : Value} {ys : List Value} (h : w.ownsRow b e z v n ys) (hg : w.grownBy w' row) (hne : ∀ k, v.ownBlock = some k → some k ≠ row) : w'.ownsRow b e z v n ys := by
  refine ⟨h.1, ?_⟩
  rcases h.2 with hn | ⟨g, cap, cur, rfl, hb, hgg, r⟩
  · exact .inl hn
  · exact .inr ⟨g, cap, cur, rfl, hb, (hg.block g (Array.getElem?_eq_some_iff.1 hgg).1 (hne g rfl)).trans hgg, r⟩
theorem own0 {base e z n : Nat} {w : World} {v : Value} {ys : List Value} (h : w.ownsRow base e z v n ys) : w.ownsRow 0 e z v n ys := own_base h (Nat.zero_le _)
/- the slice's form, and what its elements read -/
theorem own_shape {base e n : Nat} {w : World} {v : Value} {ys : List Value} (h : w.ownsRow base e 1 v n ys) : ∃ a c, v = .slice a n c ∧ n ≤ c ∧ (0 < n → ∃ g, a = some ⟨g, 0, none⟩ ∧ base ≤ g ∧ ∀ i (hi : i < ys.length), w.cell? ⟨g, i, none⟩ = some ys[i]) := by
  rcases h.2 with ⟨rfl, rfl⟩ | ⟨g, cap, cur, rfl, hb, hg, h1, h2, h3, h4⟩
  · exact ⟨none, 0, rfl, Nat.le_refl _, fun h => by omega⟩
  · refine ⟨_, cap, rfl, h1, fun _ => ⟨g, rfl, hb, fun i hi => ?_⟩⟩
    have := World.ownsRow.cells h (g := g) rfl i ys[i] (List.getElem?_eq_getElem hi)
    rw [addr_add, Nat.zero_add] at this
    exact this
theorem one_sl (a : Option Addr) (n c : Nat) : ∀ u ∈ [Value.slice a n c], u.oneCell' = true := by
  intro u hu; rw [List.mem_singleton] at hu; subst hu; rfl
theorem one_int (x : Int) : ∀ u ∈ [Value.int .i64 x], u.oneCell' = true := by
  intro u hu; rw [List.mem_singleton] at hu; subst hu; rfl
/- what is behind an append to a row of other elements -/
theorem own_app {b b' e e' z z' n n' : Nat} {w w' : World} {o : Obj} {v v' : Value} {xs ys : List Value} (h : w.ownsRow b e z v n xs) (h' : w.ownsRow b' e' z' v' n' ys) (hne : e ≠ e') (hg : (w.alloc o).grownBy w' v'.ownBlock) : w'.ownsRow b e z v n xs :=
  owns_kept (World.ownsRow.alloc h o) hg (owns_ne h h' hne)
theorem size_set (w : World) (a : Addr) (v : Value) : (w.setCell a v).heap.size = w.heap.size := by simp [World.setCell]
theorem cell_one' {w : World} {v : Value} {t : TypeId} {B : Nat} (hB : B = w.heap.size) : ∀ (j : Nat) (u : Value), [v][j]? = some u → (w.alloc (.cells #[v] t)).cell? ((⟨B, 0, none⟩ : Addr).add j) = some u := by
  subst hB; exact cell_one_new _ _ _
/- marks: a row of Booleans -/
def boolFn (p : Nat → Bool) (j : Nat) : Value := .bool (p j)
theorem marks_made (w : World) (m : Nat) : (w.alloc (.cells (madeCells #[.bool false] m) 4)).rowIs w.heap.size 4 m (boolFn fun j => decide (j ∈ ([] : List Nat))) :=
  rowIs_congr (World.rowIs_made w (.bool false) m 4) fun j _ => by unfold boolFn; simp
theorem marks_set {w : World} {b m : Nat} {seen : List Nat} (h : w.rowIs b 4 m (boolFn fun j => decide (j ∈ seen))) (x : Nat) : (w.setCell ⟨b, x, none⟩ (.bool true)).rowIs b 4 m (boolFn fun j => decide (j ∈ seen ++ [x])) := by
  refine rowIs_congr (h.set _ _) fun j _ => ?_
  unfold boolFn
  by_cases c : j = x
  · subst c; simp
  · simp [c]
theorem own_lb {b e z n : Nat} {w : World} {v : Value} {xs : List Value} (h : w.ownsRow b e z v n xs) : ∀ k, v.ownBlock = some k → b ≤ k := by
  intro k hk
  rcases h.2 with ⟨rfl, _⟩ | ⟨g, cap, cur, rfl, hb, _, _⟩
  · cases hk
  · cases hk; exact hb
/- a row of marks behind an append -/
theorem marks_app {b e z n : Nat} {w w' : World} {o : Obj} {v : Value} {xs : List Value} {sb m : Nat} {f : Nat → Value} (h : w.rowIs sb 4 m f) (h' : w.ownsRow b e z v n xs) (hg : (w.alloc o).grownBy w' v.ownBlock) (he : e ≠ 4 := by decide) : w'.rowIs sb 4 m f :=
  (h.alloc o).of_block (hg.block sb (h.alloc o).lt fun hk => own_ne h' h he sb hk.symm rfl)
def lenV : Value → Nat
  | .slice _ n _ => n
  | _ => 0
end Go.Proofs.YtdelekkbkpldjaaDoor
