/- Walks: the root of an arc (rings' inner function). -/
import Derived.Test.YtdelekkbkpldjaaDoorPS
import Derived.Test.YtdelekkbkpldjaaDoorMAllc
namespace Go.Proofs.YtdelekkbkpldjaaDoor
open Go.RowKit

/- c tells of each arc another one of its class, or itself: r is its root -/
def Forest (c r : Nat → Nat) : Prop := ∃ h : Nat → Nat, ∀ a, a < 25 → c a < 25 ∧ r a < 25 ∧ r (c a) = r a ∧ (c a = a → r a = a) ∧ (c a ≠ a → h (c a) < h a) ∧ c (r a) = r a
theorem Forest.start : Forest (fun a => a) (fun a => a) := ⟨fun _ => 0, fun a h => ⟨h, h, rfl, fun _ => rfl, fun h => absurd rfl h, rfl⟩⟩
theorem Forest.root {c r : Nat → Nat} (h : Forest c r) {a : Nat} (ha : a < 25) : r (r a) = r a := by
  obtain ⟨f, h⟩ := h
  obtain ⟨_, h2, _, _, _, h6⟩ := h a ha
  exact (h (r a) h2).2.2.2.1 h6
theorem Forest.join {c r : Nat → Nat} (h : Forest c r) {a b : Nat} (ha : a < 25) (hb : b < 25) (hn : r a ≠ r b) :
    Forest (fun x => if x = r a then r b else c x) (fun x => if r x = r a then r b else r x) := by
  have raa := h.root ha
  have rbb := h.root hb
  obtain ⟨f, h⟩ := h
  refine ⟨fun x => if r x = r a then f x + f (r b) + 1 else f x, fun x hx => ?_⟩
  obtain ⟨h1, h2, h3, h4, h5, h6⟩ := h x hx
  obtain ⟨b1, b2, b3, b4, b5, b6⟩ := h b hb
  simp only
  have nb : ¬ r b = r a := fun e => hn e.symm
  by_cases c1 : x = r a
  · subst c1
    simp only [raa, rbb, if_true, if_neg nb]
    exact ⟨b2, b2, trivial, fun e => e, fun _ => by omega, b6⟩
  · rw [if_neg c1, h3]
    refine ⟨h1, ?_, rfl, fun e => ?_, fun e => ?_, ?_⟩
    · split <;> assumption
    · have := h4 e
      rw [this, if_neg c1]
    · have := h5 e
      split <;> omega
    · by_cases c2 : r x = r a
      · rw [if_pos c2, if_neg (fun e => hn e.symm)]; exact b6
      · rw [if_neg c2, if_neg c2]; exact h6
/- the array of classes in memory -/
abbrev ClAt (w : World) (cb : Nat) (c : Nat → Nat) : Prop := w.rowIs cb 115 25 (numFn c)
set_option maxHeartbeats 1000000 in
theorem root_any (cb a : Nat) (c r : Nat → Nat) (w : World) (hc : ClAt w cb c) (hf : Forest c r) (ha : a < 25) :
    Calls Tryd.prog 61 #[.int .i64 a, .pointer (some ⟨cb, 0, none⟩)] w fun e w' => e = .returned (.int .i64 (r a : Nat)) ∧ New w w' := by
  obtain ⟨h, hf⟩ := hf
  have HC := Lib.hid hc
  have HH := Lib.hid hf
  obtain ⟨q, HQ⟩ : ∃ q, Hid (q = r a) := ⟨_, Lib.hid rfl⟩
  rw [← HQ.out]
  clear hc hf
  go_enter Tryd.func61, Tryd.ntmps61
  go_wp2
  go_loopw [0] (fun x wr => ∃ y : Nat, x = .int .i64 y ∧ y < 25 ∧ Hid (r y = q) ∧ Hid (New w wr)) (fun x _ => h (intOf x).toNat)
  case atStart => exact ⟨a, rfl, ha, Lib.hid HQ.out.symm, Lib.hid (Fr.refl _ _)⟩
  case round =>
    obtain ⟨y, rfl, hy, HY, HF⟩ := hrel
    obtain ⟨h1, h2, h3, h4, h5, h6⟩ := HH.out y hy
    have hcell := (HF.out.row HC.out fun x => x).cell (i := y) hy
    simp only [numFn] at hcell
    obtain ⟨z, HZ⟩ : ∃ z, Hid (z = c y) := ⟨_, Lib.hid rfl⟩
    rw [← HZ.out] at hcell h1 h3 h4 h5
    have HB := Lib.hid h3
    have H4 := Lib.hid h4
    have H5 := Lib.hid h5
    have i1 : (0 : Int) ≤ (y : Int) := by omega
    have i2 : (y : Int) < 25 := by omega
    clear h2 h3 h4 h5 h6
    by_cases e : z = y
    · have hr : r y = y := H4.out e
      have HRY := Lib.hid hr
      subst e
      clear hr
      have e' : (z : Int) = (z : Int) := rfl
      go_wp2
      go_ret
      exact ⟨ret_int (by rw [← HY.out, HRY.out]), HF.out⟩
    · have e' : ¬ (z : Int) = (y : Int) := by omega
      go_wp2
      go_roundw
      case rel => exact ⟨z, rfl, h1, Lib.hid (by rw [HB.out, HY.out]), HF⟩
      case measure => simpa [intOf] using H5.out e
end Go.Proofs.YtdelekkbkpldjaaDoor
