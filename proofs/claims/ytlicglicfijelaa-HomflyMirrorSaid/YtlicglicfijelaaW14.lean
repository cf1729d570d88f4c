/- Walks: Planar. -/
import Derived.Maps.OwnOps
import Derived.Test.YtlicglicfijelaaW13
namespace Go.Proofs.Ytlicglicfijelaa
open Go.RowKit

theorem Try.law3 : Maps.Keyed Try.prog 3 := Maps.int_keyed Try.underlying3
theorem Try.ul101 : Try.prog.underlying 101 = some (.map 3 3) := by kernel_rfl
theorem Try.zero3 (w : World) : (zeroValue 3).run Try.prog w = .ok (.int .i64 0) w := by kernel_rfl
theorem wf64 {a : Int} (h : -9223372036854775808 ≤ a ∧ a ≤ 9223372036854775807) : (Lit.int .i64 a).wf = true := WalkArith.wf_i64 h
theorem wfN {x : Nat} (h : x ≤ 1000) : (Lit.int .i64 (x : Nat)).wf = true := wf64 (by omega)
/- a map of numbers that reads f at what is in done -/
def NumMap (W : World) (mb cnt : Nat) (done : List Nat) (f : Nat → Nat) : Prop :=
  ∃ D : DataW Unit, W.ownsMap Try.prog 3 (plainElem Try.prog 3) mb cnt D ∧ Maps.IsMap D ∧ ∀ x ∈ done, D.atKey (.int .i64 (x : Nat)) (.lit (.int .i64 0)) = .lit (.int .i64 (f x : Nat))
theorem NumMap.made (w : World) (f : Nat → Nat) : NumMap (w.alloc (.map #[] 0)) w.heap.size 0 [] f := ⟨_, World.ownsMap_made _ _ _ _, Maps.isMap_empty, fun x hx => by cases hx⟩
theorem NumMap.fr {S : Nat → Prop} {W W' : World} {mb cnt : Nat} {done : List Nat} {f : Nat → Nat} (h : NumMap W mb cnt done f) (hf : Fr S W W') (hs : ¬ S mb) : NumMap W' mb cnt done f := by
  obtain ⟨D, ⟨es, ck, hb, r⟩, h1, h2⟩ := h
  exact ⟨D, ⟨es, ck, (hf.block mb (Array.getElem?_eq_some_iff.1 hb).1 hs).trans hb, r⟩, h1, h2⟩
theorem NumMap.block {W : World} {mb cnt : Nat} {done : List Nat} {f : Nat → Nat} (h : NumMap W mb cnt done f) : ∃ es ck, W.heap[mb]? = some (.map es ck) := by
  obtain ⟨D, ⟨es, ck, hb, _⟩, _⟩ := h
  exact ⟨es, ck, hb⟩
set_option maxRecDepth 100000 in
theorem NumMap.look {W : World} {mb cnt : Nat} {done : List Nat} {f : Nat → Nat} (h : NumMap W mb cnt done f) {x : Nat} (hx : x ∈ done) (hx2 : x ≤ 1000) : (Instr.lookup 101 (.map (some mb)) (.int .i64 (x : Nat)) false).run Try.prog W = .ok (.int .i64 (f x : Nat)) W := by
  obtain ⟨D, ho, _, h2⟩ := h
  obtain ⟨c, hrun, hat, _⟩ := ho.lookup_int Try.law3 Try.ul101 Try.underlying3 (Try.zero3 W) (Maps.keyOf_int_mk Try.underlying3 (wfN hx2))
  rw [h2 x hx] at hat
  injection hat with hat
  injection hat with _ hat
  subst hat
  exact hrun
theorem NumMap.put {W' : World} {mb cnt : Nat} {done : List Nat} {f : Nat → Nat} {D : DataW Unit} {x : Nat} (h1 : Maps.IsMap D) (h2 : ∀ x ∈ done, D.atKey (.int .i64 (x : Nat)) (.lit (.int .i64 0)) = .lit (.int .i64 (f x : Nat)))
    (ho : W'.ownsMap Try.prog 3 (plainElem Try.prog 3) mb (cnt + 1) (D.put (.int .i64 (x : Nat)) (.lit (.int .i64 (f x : Nat))))) : NumMap W' mb (cnt + 1) (done ++ [x]) f := by
  refine ⟨_, ho, h1.put _ _, fun y hy => ?_⟩
  by_cases c : y = x
  · subst c
    exact Maps.atKey_put_same h1 (k := .int .i64 (y : Nat)) trivial _ _
  · have hne : (Lit.int .i64 (y : Nat)) ≠ .int .i64 (x : Nat) := fun e => c (by injection e with _ e; omega)
    rw [Maps.atKey_put_other hne]
    rw [List.mem_append, List.mem_singleton] at hy
    exact h2 y (hy.resolve_right c)
/- what the elements of rows read -/
theorem Rows.at {α : Type} {R : World → Value → α → Prop} {base e : Nat} {w : World} {v : Value} {ll : List α} (h : Rows R base e w v ll) {i : Nat} (hi : i < ll.length) :
    ∃ g c u, v = .slice (some ⟨g, 0, none⟩) ll.length c ∧ w.cell? ⟨g, i, none⟩ = some u ∧ R w u ll[i] := by
  obtain ⟨vs, h1, h2⟩ := h
  have hl := h2.len
  obtain ⟨a, c, rfl, _, h3⟩ := own_shape h1
  obtain ⟨g, rfl, _, h4⟩ := h3 (by omega)
  exact ⟨g, c, vs[i]'(by omega), by rw [hl], h4 i (by omega), h2.at_ i (by omega) hi⟩
theorem Rows.sl {α : Type} {R : World → Value → α → Prop} {base e : Nat} {w : World} {v : Value} {ll : List α} (h : Rows R base e w v ll) : ∃ a c, v = .slice a ll.length c := by
  obtain ⟨vs, h1, h2⟩ := h
  obtain ⟨a, c, rfl, _, _⟩ := own_shape h1
  exact ⟨a, c, by rw [h2.len]⟩
theorem Rows.new {α : Type} {R : World → Value → α → Prop} {base e : Nat} {w w' : World} {v : Value} {ll : List α} (h : Rows R base e w v ll) (hf : New w w') (hR : ∀ v x, R w v x → R w' v x) : Rows R base e w' v ll := by
  obtain ⟨vs, h1, h2⟩ := h
  exact ⟨vs, hf.owns h1 fun _ _ x => x, h2.mono hR⟩
theorem OwnN.at {w : World} {v : Value} {l : List Nat} (h : OwnN w v l) {i : Nat} (hi : i < l.length) : ∃ g c, v = .slice (some ⟨g, 0, none⟩) l.length c ∧ w.cell? ⟨g, i, none⟩ = some (.int .i64 (l[i] : Nat)) := by
  obtain ⟨a, c, rfl, _, h3⟩ := own_shape (show w.ownsRow 0 3 1 v l.length (nums l) from h)
  obtain ⟨g, rfl, _, h4⟩ := h3 (by omega)
  refine ⟨g, c, rfl, ?_⟩
  rw [h4 i (by rw [nums_length]; exact hi)]
  simp [nums]
theorem OwnN.sl {w : World} {v : Value} {l : List Nat} (h : OwnN w v l) : ∃ a c, v = .slice a l.length c := by
  obtain ⟨a, c, rfl, _, _⟩ := own_shape (show w.ownsRow 0 3 1 v l.length (nums l) from h)
  exact ⟨a, c, rfl⟩
theorem OwnD.first {w : World} {v : Value} {d : Kn.Dt} {l : List Kn.Dt} (h : OwnD w v (d :: l)) : ∃ g c, v = .slice (some ⟨g, 0, none⟩) (l.length + 1) c ∧ w.cell? ⟨g, 0, none⟩ = some (.int .i64 (d.1 : Nat)) ∧ w.cell? ⟨g, 1, none⟩ = some (.bool d.2) := by
  rcases h.2 with ⟨rfl, h0⟩ | ⟨g, cap, cur, rfl, hb, hg, h1, h2, h3, h4⟩
  · simp at h0
  · refine ⟨g, cap, rfl, ?_, ?_⟩
    · have := World.ownsRow.cells h (g := g) rfl 0 (.int .i64 (d.1 : Nat)) rfl
      rwa [addr_add] at this
    · have := World.ownsRow.cells h (g := g) rfl 1 (.bool d.2) rfl
      rwa [addr_add] at this
/- the piece of a crossing -/
theorem pieceAt_eq {X : List Kn.Cr} (hX : Kn.Ok X) {i : Nat} (hi : i < (Kn.piecesL X).length) {x : Nat} (hx : x ∈ (Kn.piecesL X)[i]) : Kn.pieceAt X x = i := by
  have hnd : (Kn.piecesL X).flatten.Nodup := hX.pieces_perm.nodup_iff.2 List.nodup_range
  unfold Kn.pieceAt
  rw [List.findIdx_eq hi]
  refine ⟨by simpa using hx, fun j hj => ?_⟩
  rw [Bool.eq_false_iff]
  intro hc
  have hxj : x ∈ (Kn.piecesL X)[j] := by simpa using hc
  have hp := (List.pairwise_flatten.1 hnd).2
  have := List.pairwise_iff_getElem.1 hp j i (by omega) hi hj
  exact this x hxj x hx rfl
theorem piece_lt {X : List Kn.Cr} (hX : Kn.Ok X) {i : Nat} (hi : i < (Kn.piecesL X).length) {x : Nat} (hx : x ∈ (Kn.piecesL X)[i]) : x < X.length :=
  List.mem_range.1 (hX.pieces_perm.mem_iff.1 (List.mem_flatten.2 ⟨_, List.getElem_mem hi, hx⟩))
theorem pieces_few (X : List Kn.Cr) (hX : Kn.Ok X) : (Kn.piecesL X).length ≤ X.length := by
  have h1 := hX.pieces_perm.length_eq
  rw [List.length_range, List.length_flatten] at h1
  have h2 : ∀ (L : List (List Nat)), (∀ l ∈ L, l ≠ []) → L.length ≤ (L.map List.length).sum := by
    intro L
    induction L with
    | nil => intro _; exact Nat.le_refl _
    | cons l L ih =>
      intro h
      have := List.length_pos_iff.2 (h l (by simp))
      have := ih fun x hx => h x (by simp [hx])
      simp only [List.length_cons, List.map_cons, List.sum_cons]
      omega
  have := h2 _ fun l hl => (hX.pieces_is l hl).ne
  omega
end Go.Proofs.Ytlicglicfijelaa
