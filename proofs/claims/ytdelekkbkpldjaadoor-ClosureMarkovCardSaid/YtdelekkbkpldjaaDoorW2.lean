/- Walks: slices.Clone of crossings. -/
import Derived.Test.YtdelekkbkpldjaaDoorW1
namespace Go.Proofs.YtdelekkbkpldjaaDoor
open Go.RowKit

theorem Tryd.info56 : (Tryd.prog.info? 56).map (fun i => (i.zero, i.size, i.bytes)) = some (some (.agg #[.int .i64 0, .int .i64 0, .int .i64 0, .int .i64 0, .bool false]), 5, 40) := by kernel_rfl
/- the cells of crossings, in a row -/
def crFn (X : List Kn.Cr) (j : Nat) : Value :=
  if j % 5 = 0 then .int .i64 (Kn.cr X (j / 5)).a else if j % 5 = 1 then .int .i64 (Kn.cr X (j / 5)).b else if j % 5 = 2 then .int .i64 (Kn.cr X (j / 5)).c else if j % 5 = 3 then .int .i64 (Kn.cr X (j / 5)).d else .bool (Kn.cr X (j / 5)).p
def crCells (X : List Kn.Cr) : List Value := (List.range (X.length * 5)).map (crFn X)
theorem crCells_length (X : List Kn.Cr) : (crCells X).length = X.length * 5 := by simp [crCells]
theorem crCells_get {X : List Kn.Cr} {j : Nat} {u : Value} (h : (crCells X)[j]? = some u) : j < X.length * 5 ∧ u = crFn X j := by
  unfold crCells at h
  rw [List.getElem?_map] at h
  by_cases c : j < X.length * 5
  · rw [List.getElem?_range c] at h
    simp only [Option.map_some, Option.some.injEq] at h
    exact ⟨c, h.symm⟩
  · rw [List.getElem?_eq_none (by simpa using c)] at h; cases h
theorem crCells_at {X : List Kn.Cr} {j : Nat} (h : j < X.length * 5) : (crCells X)[j]? = some (crFn X j) := by
  unfold crCells
  rw [List.getElem?_map, List.getElem?_range h]; rfl
theorem crFn_cell {w : World} {b o i : Nat} {X : List Kn.Cr} (h : CrAt w b (o + i * 5) (Kn.cr X i)) {k : Nat} (hk : k < 5) : w.cell? ⟨b, o + (i * 5 + k), none⟩ = some (crFn X (i * 5 + k)) := by
  unfold crFn
  rw [show (i * 5 + k) / 5 = i by omega, show (i * 5 + k) % 5 = k by omega, ← Nat.add_assoc]
  match k, hk with
  | 0, _ => exact h.a
  | 1, _ => exact h.b
  | 2, _ => exact h.c
  | 3, _ => exact h.d
  | 4, _ => exact h.p
theorem crAt_of {w : World} {b o i : Nat} {X : List Kn.Cr} (h : ∀ k, k < 5 → w.cell? ⟨b, o + (i * 5 + k), none⟩ = some (crFn X (i * 5 + k))) : CrAt w b (o + i * 5) (Kn.cr X i) := by
  have key : ∀ k, k < 5 → crFn X (i * 5 + k) = if k = 0 then .int .i64 (Kn.cr X i).a else if k = 1 then .int .i64 (Kn.cr X i).b else if k = 2 then .int .i64 (Kn.cr X i).c else if k = 3 then .int .i64 (Kn.cr X i).d else .bool (Kn.cr X i).p := fun k hk => by
    unfold crFn
    rw [show (i * 5 + k) / 5 = i by omega, show (i * 5 + k) % 5 = k by omega]
  have h0 := h 0 (by omega)
  have h1 := h 1 (by omega)
  have h2 := h 2 (by omega)
  have h3 := h 3 (by omega)
  have h4 := h 4 (by omega)
  rw [key _ (by omega), ← Nat.add_assoc] at h0 h1 h2 h3 h4
  exact ⟨h0, h1, h2, h3, h4⟩
theorem CrsAt.news {w : World} {ad : Addr} {X : List Kn.Cr} (h : CrsAt w (some ad) X) : ∀ j u, (crCells X)[j]? = some u → w.cell? (ad.add j) = some u := by
  intro j u hu
  obtain ⟨hj, rfl⟩ := crCells_get hu
  obtain ⟨b, o, e, hc⟩ := h.at (k := j / 5) (by omega)
  cases e
  rw [addr_add]
  have := crFn_cell hc (k := j % 5) (by omega)
  rwa [show j / 5 * 5 + j % 5 = j by omega] at this
theorem crCells_one (X : List Kn.Cr) : ∀ u ∈ crCells X, u.oneCell' = true := by
  intro u hu
  obtain ⟨j, _, rfl⟩ := List.mem_map.1 hu
  unfold crFn
  split
  · rfl
  split
  · rfl
  split
  · rfl
  split <;> rfl
theorem CrsAt.of_owns {w : World} {base : Nat} {v : Value} {X : List Kn.Cr} (h : w.ownsRow base 56 5 v X.length (crCells X)) : ∃ a c, v = .slice a X.length c ∧ CrsAt w a X := by
  rcases h.2 with ⟨rfl, h0⟩ | ⟨g, cap, cur, rfl, hb, hg, hn, hc, hs, ht⟩
  · rw [h0]
    exact ⟨none, 0, rfl, .inl (List.length_eq_zero_iff.1 h0)⟩
  · refine ⟨_, cap, rfl, .inr ⟨g, 0, rfl, fun i hi => crAt_of fun k hk => ?_⟩⟩
    have := World.ownsRow.cells h (g := g) rfl (i * 5 + k) (crFn X (i * 5 + k)) (crCells_at (by omega))
    rwa [addr_add] at this
/- a call that hands back crossings in new memory -/
def GaveCrs (X : List Kn.Cr) (w : World) (e : Ending) (w' : World) : Prop := ∃ v, e = .returned v ∧ w'.ownsRow w.heap.size 56 5 v X.length (crCells X) ∧ New w w'

set_option maxHeartbeats 400000 in
theorem clone_any (a : Option Addr) (c : Nat) (X : List Kn.Cr) (w : World) (hx : CrsAt w a X) (lx : X.length ≤ 1000) :
    Calls Tryd.prog 75 #[.slice a X.length c] w (GaveCrs X w) := by
  have hnil := fun (w : World) (a : Option Addr) (n c n' c' : Nat) => Lib.run_eql_slice_nil (P := Tryd.prog) w 25 56 a n c n' c' Tryd.underlying25
  have HX := Lib.hid hx
  clear hx
  cases a with
  | none =>
    have hx0 : X = [] := by
      rcases HX.out with h | ⟨b, o, e, _⟩
      · exact h
      · cases e
    subst hx0
    go_enter Tryd.func75, Tryd.ntmps75
    go_wp2
    go_ret
    exact ⟨_, rfl, ⟨rfl, .inl ⟨rfl, rfl⟩⟩, Fr.refl _ _⟩
  | some ad =>
    obtain ⟨i0, hi, hz0, hz1, hz2⟩ := info_parts Tryd.info56
    go_enter Tryd.func75, Tryd.ntmps75
    go_wp2_with (at_builtin; refine wpList_append_own _ rfl _ _ 25 rfl w.heap.size 56 i0 _ 5 40 Tryd.underlying25 hi hz0 hz1 hz2 rfl (by decide) _ 0 [] rfl (World.ownsRow_made _ _ _ ?c0 ?c0b ?c0c) ad X.length c (crCells X) rfl ?c1 ?c2 ?c3 ?c4 ?c5 ?c6 ?_)
    case c0 => exact Nat.le_refl _
    case c0b => exact Nat.zero_le _
    case c0c => rfl
    case c1 => rw [crCells_length]
    case c2 => exact (New.crs ((Fr.refl _ _).alloc _) HX.out).news
    case c3 => exact crCells_one X
    case c4 => unfold maxLen; omega
    case c5 => omega
    case c6 => simp
    intro v' w1 hown hgrow _
    have hfr : New w w1 := ((Fr.refl (fun _ => False) w).alloc (.cells #[] 56)).grown hgrow fun k e => by
      right
      simp only [Value.ownBlock, Option.some.injEq] at e
      omega
    obtain ⟨a', c', rfl, h1⟩ := CrsAt.of_owns hown
    have H1 := Lib.hid hown
    have HF := Lib.hid hfr
    clear hown hgrow h1 hfr
    go_wp2
    go_ret
    exact ⟨_, rfl, H1.out, HF.out⟩
theorem clone_n (a : Option Addr) (n c : Nat) (X : List Kn.Cr) (w : World) (hx : CrsAt w a X) (hn : n = X.length) (lx : n ≤ 1000) :
    Calls Tryd.prog 75 #[.slice a n c] w (GaveCrs X w) := by
  subst hn; exact clone_any a c X w hx lx
end Go.Proofs.YtdelekkbkpldjaaDoor
