/- Walks: Below, Above, Through. -/
import Derived.Test.YtlicglicfijelaaW12
import Derived.Test.YtlicglicfijelaaMAllc
namespace Go.Proofs.Ytlicglicfijelaa
open Go.RowKit

/- a strand's two arcs as a value -/
abbrev twoV (a b : Int) : Value := .agg #[.int .i64 a, .int .i64 b]
theorem two_c {W : World} {B t : Nat} {a b : Value} (h : W.heap[B]? = some (.cells #[a, b] t (0, 0))) : W.cell? ⟨B, 0, none⟩ = some a ∧ W.cell? ⟨B, 1, none⟩ = some b ∧ W.frozen? ⟨B, 0, none⟩ = false ∧ W.frozen? ⟨B, 1, none⟩ = false := by
  refine ⟨cell_of_row _ _ 0 _ t (0, 0) h, cell_of_row _ _ 1 _ t (0, 0) h, ?_, ?_⟩ <;> simp [World.frozen?, h]
theorem four_c {W : World} {B t : Nat} {a b c d : Value} (h : W.heap[B]? = some (.cells #[a, b, c, d] t (0, 0))) :
    W.cell? ⟨B, 0, none⟩ = some a ∧ W.cell? ⟨B, 1, none⟩ = some b ∧ W.cell? ⟨B, 2, none⟩ = some c ∧ W.cell? ⟨B, 3, none⟩ = some d ∧
    W.frozen? ⟨B, 0, none⟩ = false ∧ W.frozen? ⟨B, 1, none⟩ = false ∧ W.frozen? ⟨B, 2, none⟩ = false ∧ W.frozen? ⟨B, 3, none⟩ = false := by
  refine ⟨cell_of_row _ _ 0 _ t (0, 0) h, cell_of_row _ _ 1 _ t (0, 0) h, cell_of_row _ _ 2 _ t (0, 0) h, cell_of_row _ _ 3 _ t (0, 0) h, ?_, ?_, ?_, ?_⟩ <;> simp [World.frozen?, h]
theorem five_c {W : World} {B t : Nat} {a b c d e : Value} (h : W.heap[B]? = some (.cells #[a, b, c, d, e] t (0, 0))) :
    W.cell? ⟨B, 0, none⟩ = some a ∧ W.cell? ⟨B, 1, none⟩ = some b ∧ W.cell? ⟨B, 2, none⟩ = some c ∧ W.cell? ⟨B, 3, none⟩ = some d ∧ W.cell? ⟨B, 4, none⟩ = some e := by
  refine ⟨cell_of_row _ _ 0 _ t (0, 0) h, cell_of_row _ _ 1 _ t (0, 0) h, cell_of_row _ _ 2 _ t (0, 0) h, cell_of_row _ _ 3 _ t (0, 0) h, cell_of_row _ _ 4 _ t (0, 0) h⟩
theorem four_set {W : World} {B t : Nat} {a b c d : Value} (h : W.heap[B]? = some (.cells #[a, b, c, d] t (0, 0))) (a' b' c' d' : Value) :
    ((((W.setCell ⟨B, 0, none⟩ a').setCell ⟨B, 1, none⟩ b').setCell ⟨B, 2, none⟩ c').setCell ⟨B, 3, none⟩ d').heap[B]? = some (.cells #[a', b', c', d'] t (0, 0)) := by
  unfold World.setCell; simp [Array.getElem?_modify, h]
theorem four_fr (W : World) (B : Nat) (a b c d : Value) : Fr (fun k => k = B) W ((((W.setCell ⟨B, 0, none⟩ a).setCell ⟨B, 1, none⟩ b).setCell ⟨B, 2, none⟩ c).setCell ⟨B, 3, none⟩ d) :=
  ((((Fr.refl (fun k => k = B) W).setCell (a := ⟨B, 0, none⟩) (.inl rfl) _).setCell (a := ⟨B, 1, none⟩) (.inl rfl) _).setCell (a := ⟨B, 2, none⟩) (.inl rfl) _).setCell (a := ⟨B, 3, none⟩) (.inl rfl) _
theorem below_any (x : Kn.Cr) (w : World) : Calls Try.prog 43 #[crV x] w (fun e w' => e = .returned (twoV x.a x.c) ∧ New w w') := by
  obtain ⟨a, b, c, d, p⟩ := x
  go_enter Try.func43, Try.ntmps43
  go_wp2
  have HN := Lib.hid (((Fr.refl (fun _ => False) w).alloc (.cells #[.int .i64 a, .int .i64 b, .int .i64 c, .int .i64 d, .bool p] 58)).alloc (.cells #[.int .i64 a, .int .i64 c] 93))
  have hz := heap_alloc_new (w.alloc (.cells #[.int .i64 a, .int .i64 b, .int .i64 c, .int .i64 d, .bool p] 58)) (.cells #[.int .i64 a, .int .i64 c] 93)
  rw [World.size_alloc] at hz
  obtain ⟨c1, c2, _⟩ := two_c hz
  exact bodyPost_ret (v := twoV a c) (by simp [results, Try.results43, go_sem, c1, c2]) rfl ⟨rfl, HN.out⟩
/- the strand above: where it comes in, where it goes out -/
def upA (x : Kn.Cr) : Int := if x.p then x.d else x.b
def upB (x : Kn.Cr) : Int := if x.p then x.b else x.d
theorem above_any (x : Kn.Cr) (w : World) : Calls Try.prog 44 #[crV x] w (fun e w' => e = .returned (twoV (upA x) (upB x)) ∧ New w w') := by
  obtain ⟨a, b, c, d, p⟩ := x
  go_enter Try.func44, Try.ntmps44
  cases p
  · go_wp2
    have HN := Lib.hid (((Fr.refl (fun _ => False) w).alloc (.cells #[.int .i64 a, .int .i64 b, .int .i64 c, .int .i64 d, .bool false] 58)).alloc (.cells #[.int .i64 b, .int .i64 d] 93))
    have hz := heap_alloc_new (w.alloc (.cells #[.int .i64 a, .int .i64 b, .int .i64 c, .int .i64 d, .bool false] 58)) (.cells #[.int .i64 b, .int .i64 d] 93)
    rw [World.size_alloc] at hz
    obtain ⟨c1, c2, _⟩ := two_c hz
    exact bodyPost_ret (v := twoV b d) (by simp [results, Try.results44, go_sem, c1, c2]) rfl ⟨rfl, HN.out⟩
  · go_wp2
    have HN := Lib.hid (((Fr.refl (fun _ => False) w).alloc (.cells #[.int .i64 a, .int .i64 b, .int .i64 c, .int .i64 d, .bool true] 58)).alloc (.cells #[.int .i64 d, .int .i64 b] 93))
    have hz := heap_alloc_new (w.alloc (.cells #[.int .i64 a, .int .i64 b, .int .i64 c, .int .i64 d, .bool true] 58)) (.cells #[.int .i64 d, .int .i64 b] 93)
    rw [World.size_alloc] at hz
    obtain ⟨c1, c2, _⟩ := two_c hz
    exact bodyPost_ret (v := twoV d b) (by simp [results, Try.results44, go_sem, c1, c2]) rfl ⟨rfl, HN.out⟩
end Go.Proofs.Ytlicglicfijelaa
