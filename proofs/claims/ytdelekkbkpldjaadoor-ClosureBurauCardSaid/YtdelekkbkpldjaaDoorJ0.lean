/- Walks: the root of an arc (rings' inner function). -/
import Derived.Test.YtdelekkbkpldjaaDoorPS
import Derived.Test.YtdelekkbkpldjaaDoorMAllc
namespace Go.Proofs.YtdelekkbkpldjaaDoor
open Go.RowKit

/- c tells of each arc another one of its class, or itself: r is its root -/
def Forest (c r : Nat → Nat) : Prop := ∃ h : Nat → Nat, ∀ a, a < 25 → c a < 25 ∧ r a < 25 ∧ r (c a) = r a ∧ (c a = a → r a = a) ∧ (c a ≠ a → h (c a) < h a) ∧ c (r a) = r a
theorem Forest.start : Forest (fun a => a) (fun a => a) := ⟨fun _ => 0, fun a h => ⟨h, h, rfl, fun _ => rfl, fun h => absurd rfl h, rfl⟩⟩
theorem Forest.root {c r : Nat → Nat} (h : Forest c r) {a : Nat} (ha : a < 25) : r (r a) = r a := by
  obtain ⟨f, h⟩ := h
  obtain ⟨_, h2, _, _, _, h6⟩ := h a ha
  exact (h (r a) h2).2.2.2.1 h6
/- the array of classes in memory -/
abbrev ClAt (w : World) (cb : Nat) (c : Nat → Nat) : Prop := w.rowIs cb 115 25 (numFn c)
end Go.Proofs.YtdelekkbkpldjaaDoor
