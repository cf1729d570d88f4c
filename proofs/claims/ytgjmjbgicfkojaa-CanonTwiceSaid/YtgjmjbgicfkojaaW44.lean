/- Walks: set. -/
import Derived.Test.YtgjmjbgicfkojaaW43
import Derived.Test.YtgjmjbgicfkojaaMAll
namespace Go.Proofs.Ytgjmjbgicfkojaa
open Go.RowKit

def setA (x : Kn.Cr) (s : Nat) (a : Int) : Kn.Cr := if s = 0 then { x with a := a } else if s = 1 then { x with b := a } else if s = 2 then { x with c := a } else { x with d := a }
set_option maxHeartbeats 2000000 in
theorem set_any (g o s : Nat) (a z : Int) (w : World) (hs : s < 4) (hc : w.cell? ⟨g, o + s, none⟩ = some (.int .i64 z)) (hf : w.frozen? ⟨g, o + s, none⟩ = false) :
    Calls Try.prog 38 #[.pointer (some ⟨g, o, none⟩), .int .i64 (s : Nat), .int .i64 a] w (fun e w' => e = .returned (.tuple #[]) ∧ New (w.setCell ⟨g, o + s, none⟩ (.int .i64 a)) w') := by
  have hi0 : ∀ (p0 p1 p2 p3 : Option Addr) (w : World), (Instr.index 108 (.agg #[.pointer p0, .pointer p1, .pointer p2, .pointer p3]) (.int .i64 0)).run Try.prog w = .ok (.pointer p0) w := fun p0 p1 p2 p3 w => by kernel_rfl
  have hi1 : ∀ (p0 p1 p2 p3 : Option Addr) (w : World), (Instr.index 108 (.agg #[.pointer p0, .pointer p1, .pointer p2, .pointer p3]) (.int .i64 1)).run Try.prog w = .ok (.pointer p1) w := fun p0 p1 p2 p3 w => by kernel_rfl
  have hi2 : ∀ (p0 p1 p2 p3 : Option Addr) (w : World), (Instr.index 108 (.agg #[.pointer p0, .pointer p1, .pointer p2, .pointer p3]) (.int .i64 2)).run Try.prog w = .ok (.pointer p2) w := fun p0 p1 p2 p3 w => by kernel_rfl
  have hi3 : ∀ (p0 p1 p2 p3 : Option Addr) (w : World), (Instr.index 108 (.agg #[.pointer p0, .pointer p1, .pointer p2, .pointer p3]) (.int .i64 3)).run Try.prog w = .ok (.pointer p3) w := fun p0 p1 p2 p3 w => by kernel_rfl
  match s, hs with
  | 0, _ =>
    have hc0 : w.cell? ⟨g, o, none⟩ = some (.int .i64 z) := hc
    have hf0 : w.frozen? ⟨g, o, none⟩ = false := hf
    go_enter Try.func38, Try.ntmps38
    go_wp2
    go_region
    go_end0
    exact ⟨rfl, (Fr.refl _ _).drew⟩
  | 1, _ =>
    go_enter Try.func38, Try.ntmps38
    go_wp2
    go_region
    go_end0
    exact ⟨rfl, (Fr.refl _ _).drew⟩
  | 2, _ =>
    go_enter Try.func38, Try.ntmps38
    go_wp2
    go_region
    go_end0
    exact ⟨rfl, (Fr.refl _ _).drew⟩
  | 3, _ =>
    go_enter Try.func38, Try.ntmps38
    go_wp2
    go_region
    go_end0
    exact ⟨rfl, (Fr.refl _ _).drew⟩
theorem crCells_setA {Y : List Kn.Cr} {k s : Nat} (hk : k < Y.length) (hs : s < 4) (a : Int) : (crCells Y).set (k * 5 + s) (.int .i64 a) = crCells (Y.set k (setA (Kn.cr Y k) s a)) := by
  apply List.ext_getElem?
  intro j
  by_cases c : j < Y.length * 5
  · rw [crCells_at (X := Y.set k (setA (Kn.cr Y k) s a)) (by rw [List.length_set]; exact c), List.getElem?_set, crCells_length]
    have hcr : Kn.cr (Y.set k (setA (Kn.cr Y k) s a)) (j / 5) = if j / 5 = k then setA (Kn.cr Y k) s a else Kn.cr Y (j / 5) := by
      unfold Kn.cr
      rw [List.getD_eq_getElem?_getD, List.getD_eq_getElem?_getD, List.getElem?_set]
      by_cases e : k = j / 5
      · subst e; simp [hk]
      · rw [if_neg e, if_neg (fun h => e h.symm), List.getD_eq_getElem?_getD]
    have hcells := crCells_at c
    unfold crFn at hcells ⊢
    rw [hcr]
    by_cases e : j / 5 = k
    · rw [if_pos e]
      obtain ⟨r, hr, rfl⟩ : ∃ r, r < 5 ∧ j = k * 5 + r := ⟨j - k * 5, by omega, by omega⟩
      rw [hcells, show (k * 5 + r) % 5 = r by omega, show (k * 5 + r) / 5 = k by omega]
      unfold setA
      match s, hs, r, hr with
      | 0, _, 0, _ => simp; omega
      | 0, _, 1, _ => simp
      | 0, _, 2, _ => simp
      | 0, _, 3, _ => simp
      | 0, _, 4, _ => simp
      | 1, _, 0, _ => simp
      | 1, _, 1, _ => simp; omega
      | 1, _, 2, _ => simp
      | 1, _, 3, _ => simp
      | 1, _, 4, _ => simp
      | 2, _, 0, _ => simp
      | 2, _, 1, _ => simp
      | 2, _, 2, _ => simp; omega
      | 2, _, 3, _ => simp
      | 2, _, 4, _ => simp
      | 3, _, 0, _ => simp
      | 3, _, 1, _ => simp
      | 3, _, 2, _ => simp
      | 3, _, 3, _ => simp; omega
      | 3, _, 4, _ => simp
    · rw [if_neg e, if_neg (by omega), hcells]
  · rw [List.getElem?_eq_none (by simp [crCells_length]; omega), List.getElem?_eq_none (by simp [crCells_length]; omega)]
end Go.Proofs.Ytgjmjbgicfkojaa
