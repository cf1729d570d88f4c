/- Words for Form's second half. -/
import Derived.Test.YtgjmjbgicfkojaaGreatW24
import Derived.Test.YtgjmjbgicfkojaaGreatMAll
namespace Go.Proofs.YtgjmjbgicfkojaaGreat
open Go.RowKit

theorem crCells_snoc (X : List Kn.Cr) (x : Kn.Cr) : crCells (X ++ [x]) = crCells X ++ [.int .i64 x.a, .int .i64 x.b, .int .i64 x.c, .int .i64 x.d, .bool x.p] := by
  apply List.ext_getElem?
  intro j
  by_cases c : j < X.length * 5
  · rw [crCells_at (by simp; omega), List.getElem?_append_left (by rw [crCells_length]; exact c), crCells_at c]
    have : Kn.cr (X ++ [x]) (j / 5) = Kn.cr X (j / 5) := by
      unfold Kn.cr
      rw [List.getD_eq_getElem?_getD, List.getD_eq_getElem?_getD, List.getElem?_append_left (by omega)]
    unfold crFn
    rw [this]
  · by_cases c' : j < X.length * 5 + 5
    · rw [crCells_at (by simp; omega), List.getElem?_append_right (by rw [crCells_length]; omega), crCells_length]
      have e1 : j / 5 = X.length := by omega
      have : Kn.cr (X ++ [x]) (j / 5) = x := by
        unfold Kn.cr
        rw [List.getD_eq_getElem?_getD, e1]
        simp
      unfold crFn
      rw [this]
      obtain ⟨k, hk, rfl⟩ : ∃ k, k < 5 ∧ j = X.length * 5 + k := ⟨j - X.length * 5, by omega, by omega⟩
      rw [show (X.length * 5 + k) % 5 = k by omega, show X.length * 5 + k - X.length * 5 = k by omega]
      match k, hk with
      | 0, _ => rfl
      | 1, _ => rfl
      | 2, _ => rfl
      | 3, _ => rfl
      | 4, _ => rfl
    · rw [List.getElem?_eq_none (by rw [crCells_length]; simp; omega), List.getElem?_eq_none (by simp [crCells_length]; omega)]
theorem ShAt.loops {w : World} {b : Nat} {X : List Kn.Cr} {L : Int} (h : ShAt w b X L) : w.cell? ⟨b, 1, none⟩ = some (.int .i64 L) := by
  obtain ⟨v, bi, bo, base, s⟩ := h
  exact s.c2.2.1
/- a crossing's arcs, as numbers -/
theorem arc_nat {X : List Kn.Cr} (hX : Kn.Ok X) {c : Nat} (hc : c < X.length) : (Kn.cr X c).a = (Kn.arcN X (c, 0) : Nat) ∧ (Kn.cr X c).b = (Kn.arcN X (c, 1) : Nat) ∧ (Kn.cr X c).c = (Kn.arcN X (c, 2) : Nat) ∧ (Kn.cr X c).d = (Kn.arcN X (c, 3) : Nat) ∧ ∀ s, s < 4 → Kn.arcN X (c, s) ≤ 2 * X.length := by
  have h : ∀ s, s < 4 → Kn.at_ X (c, s) = (Kn.arcN X (c, s) : Nat) ∧ Kn.arcN X (c, s) ≤ 2 * X.length := fun s hs => by
    have h1 := hX.isArc (X := X) (p := (c, s)) ⟨hc, hs⟩
    unfold Kn.isArc Kn.nArcs at h1
    refine ⟨?_, h1.2⟩
    have h2 := h1.1
    unfold Kn.arcN at h2 ⊢
    omega
  exact ⟨(h 0 (by omega)).1, (h 1 (by omega)).1, (h 2 (by omega)).1, (h 3 (by omega)).1, fun s hs => (h s hs).2⟩
/- the form at work -/
structure FC (w0 wr : World) (D FBx mb : Nat) (X : List Kn.Cr) (L : Int) (os : List Nat) (sc : Value) : Prop where
  new : New w0 wr
  ld : w0.heap.size ≤ D
  lm : w0.heap.size ≤ mb
  box : wr.heap[D]? = some (.cells #[sc, .int .i64 L] 24 (0, 0))
  fb : wr.heap[FBx]? = some (.cells #[.map (some mb)] 80 (0, 0))
  own : wr.ownsRow w0.heap.size 75 5 sc os.length (crCells (Kn.numbered X os))
  map : NMap wr mb (Kn.firsts (os.flatMap (Kn.arcsOf X)))
theorem FC.nw {w0 wr w' : World} {D FBx mb : Nat} {X : List Kn.Cr} {L : Int} {os : List Nat} {sc : Value} (h : FC w0 wr D FBx mb X L os sc) (hf : New wr w') : FC w0 w' D FBx mb X L os sc :=
  ⟨h.new.trans hf, h.ld, h.lm, hf.blk h.box fun x => x, hf.blk h.fb fun x => x, hf.owns h.own fun _ _ x => x, h.map.fr hf fun x => x⟩

/- the crossings of the first views -/
def oq (xs : List Kn.Vw) (q : Nat) : List Nat := (xs.take q).flatMap (·.1)
theorem oq_succ {xs : List Kn.Vw} {q : Nat} (h : q < xs.length) : oq xs (q + 1) = oq xs q ++ xs[q].1 := by
  unfold oq
  rw [List.take_succ_eq_append_getElem h, List.flatMap_append]
  simp
theorem oq_pre (xs : List Kn.Vw) (q : Nat) : oq xs q <+: xs.flatMap (·.1) := by
  unfold oq
  conv => rhs; rw [← List.take_append_drop q xs, List.flatMap_append]
  exact List.prefix_append _ _
theorem oq_few {xs : List Kn.Vw} {q j n : Nat} (h : q < xs.length) (hn : (xs.flatMap (·.1)).length = n) : (oq xs q ++ xs[q].1.take j).length ≤ n := by
  have h1 := (oq_pre xs (q + 1)).length_le
  rw [oq_succ h] at h1
  simp only [List.length_append, List.length_take] at h1 ⊢
  omega
/- a view in its row -/
theorem vrow_cell {w : World} {base g m c : Nat} {ts : List TV} (h : w.ownsRow base 94 2 (.slice (some ⟨g, 0, none⟩) m c) ts.length (ts.flatMap vcell)) {q : Nat} (hq : q < ts.length) : w.cell? ⟨g, q * 2, none⟩ = some ts[q].1.1 ∧ w.cell? ⟨g, q * 2 + 1, none⟩ = some ts[q].1.2 := by
  have hk : ∀ x : TV, (vcell x).length = 2 := fun _ => rfl
  have h0 := World.ownsRow.cells h (g := g) rfl (q * 2) ts[q].1.1 (by rw [flat_get vcell hk ts (q * 2) (by omega)]; simp [vcell])
  have h1 := World.ownsRow.cells h (g := g) rfl (q * 2 + 1) ts[q].1.2 (by
    rw [flat_get vcell hk ts (q * 2 + 1) (by omega)]
    have e : (q * 2 + 1) / 2 = q := by omega
    have e2 : (q * 2 + 1) % 2 = 1 := by omega
    simp [vcell, e, e2])
  rw [addr_add, Nat.zero_add] at h0 h1
  exact ⟨h0, h1⟩
theorem FC.begin (w0 : World) (X : List Kn.Cr) (L : Int) : FC w0 (((w0.alloc (.cells #[.slice none 0 0, .int .i64 L] 24)).alloc (.map #[] 0)).alloc (.cells #[.map (some (w0.heap.size + 1))] 80)) w0.heap.size (w0.heap.size + 1 + 1) (w0.heap.size + 1) X L [] (.slice none 0 0) := by
  have hn := ((((Fr.refl (fun _ => False) w0).alloc (.cells #[.slice none 0 0, .int .i64 L] 24)).alloc (.map #[] 0)).alloc (.cells #[.map (some (w0.heap.size + 1))] 80))
  refine ⟨hn, Nat.le_refl _, Nat.le_succ _, ?_, ?_, ⟨rfl, .inl ⟨rfl, rfl⟩⟩, ?_⟩
  · exact (((Fr.refl (fun _ => False) (w0.alloc (.cells #[.slice none 0 0, .int .i64 L] 24))).alloc (.map #[] 0)).alloc (.cells #[.map (some (w0.heap.size + 1))] 80)).blk (heap_alloc_new _ _) fun x => x
  · have := heap_alloc_new ((w0.alloc (.cells #[.slice none 0 0, .int .i64 L] 24)).alloc (.map #[] 0)) (.cells #[.map (some (w0.heap.size + 1))] 80)
    simpa [World.size_alloc] using this
  · have := (NMap.made (w0.alloc (.cells #[.slice none 0 0, .int .i64 L] 24))).fr ((Fr.refl (fun _ => False) _).alloc (.cells #[.map (some (w0.heap.size + 1))] 80)) fun x => x
    simpa [World.size_alloc, Kn.firsts] using this
end Go.Proofs.YtgjmjbgicfkojaaGreat
