/- Walks: Arc, OverIn, Comes. -/
import Derived.Test.YtdelekkbkpldjaaDoorW0
namespace Go.Proofs.YtdelekkbkpldjaaDoor
open Go.RowKit

theorem ret_nat {a b : Nat} (h : a = b) : Ending.returned (.int .i64 (a : Int)) = .returned (.int .i64 (b : Int)) := by rw [h]
def arcI (a b c d : Int) (s : Nat) : Int := if s = 0 then a else if s = 1 then b else if s = 2 then c else d
theorem arcI_eq (x : Kn.Cr) (s : Nat) : arcI x.a x.b x.c x.d s = x.arc s := rfl

set_option maxHeartbeats 400000 in
theorem arc_any (a b c d : Int) (p : Bool) (s : Nat) (w : World) (hs : s < 4) :
    Calls Tryd.prog 63 #[.agg #[.int .i64 a, .int .i64 b, .int .i64 c, .int .i64 d, .bool p], .int .i64 s] w fun e w' => e = .returned (.int .i64 (arcI a b c d s)) ∧ New w w' := by
  match s, hs with
  | 0, _ =>
    have hi : ∀ w, (Instr.index 131 (.agg #[.int .i64 a, .int .i64 b, .int .i64 c, .int .i64 d]) (.int .i64 0)).run Tryd.prog w = .ok (.int .i64 a) w := fun _ => by kernel_rfl
    go_enter Tryd.func63, Tryd.ntmps63
    go_wp2
    go_ret
    exact ⟨rfl, (Fr.refl _ _).alloc _⟩
  | 1, _ =>
    have hi : ∀ w, (Instr.index 131 (.agg #[.int .i64 a, .int .i64 b, .int .i64 c, .int .i64 d]) (.int .i64 1)).run Tryd.prog w = .ok (.int .i64 b) w := fun _ => by kernel_rfl
    go_enter Tryd.func63, Tryd.ntmps63
    go_wp2
    go_ret
    exact ⟨rfl, (Fr.refl _ _).alloc _⟩
  | 2, _ =>
    have hi : ∀ w, (Instr.index 131 (.agg #[.int .i64 a, .int .i64 b, .int .i64 c, .int .i64 d]) (.int .i64 2)).run Tryd.prog w = .ok (.int .i64 c) w := fun _ => by kernel_rfl
    go_enter Tryd.func63, Tryd.ntmps63
    go_wp2
    go_ret
    exact ⟨rfl, (Fr.refl _ _).alloc _⟩
  | 3, _ =>
    have hi : ∀ w, (Instr.index 131 (.agg #[.int .i64 a, .int .i64 b, .int .i64 c, .int .i64 d]) (.int .i64 3)).run Tryd.prog w = .ok (.int .i64 d) w := fun _ => by kernel_rfl
    go_enter Tryd.func63, Tryd.ntmps63
    go_wp2
    go_ret
    exact ⟨rfl, (Fr.refl _ _).alloc _⟩

set_option maxHeartbeats 400000 in
theorem overIn_any (a b c d : Int) (p : Bool) (w : World) :
    Calls Tryd.prog 91 #[.agg #[.int .i64 a, .int .i64 b, .int .i64 c, .int .i64 d, .bool p]] w fun e w' => e = .returned (.int .i64 (Kn.over p : Nat)) ∧ New w w' := by
  cases p
  · go_enter Tryd.func91, Tryd.ntmps91
    go_wp2
    go_ret
    exact ⟨rfl, (Fr.refl _ _).alloc _⟩
  · go_enter Tryd.func91, Tryd.ntmps91
    go_wp2
    go_ret
    exact ⟨rfl, (Fr.refl _ _).alloc _⟩

def comesB (p : Bool) (s : Nat) : Bool := decide (s = 0) || decide (s = Kn.over p)
theorem comesB_eq (x : Kn.Cr) (s : Nat) : comesB x.p s = x.comes s := rfl
set_option maxHeartbeats 400000 in
theorem comes_any (a b c d : Int) (p : Bool) (s : Nat) (w : World) (hs : s < 4) :
    Calls Tryd.prog 76 #[.agg #[.int .i64 a, .int .i64 b, .int .i64 c, .int .i64 d, .bool p], .int .i64 s] w fun e w' => e = .returned (.bool (comesB p s)) ∧ New w w' := by
  have key : ∀ s : Nat, s = 0 ∨ ¬ s = 0 := fun s => by omega
  rcases key s with h | h
  · subst h
    go_enter Tryd.func76, Tryd.ntmps76
    go_wp2
    go_ret
    exact ⟨rfl, (Fr.refl _ _).alloc _⟩
  · obtain ⟨t, HT⟩ : ∃ t, Hid (t = Kn.over p) := ⟨_, Lib.hid rfl⟩
    have h0 : decide ((s : Int) = 0) = false := by simpa using h
    have H0 := Lib.hid h
    clear h
    go_enter Tryd.func76, Tryd.ntmps76
    go_wp2_with (go_at_call 91; refine (overIn_any _ _ _ _ _ _).mono ?_; rintro e w' ⟨rfl, hF⟩; rw [← HT.out]; have HF := Lib.hid hF; clear hF)
    go_ret
    refine ⟨ret_bool ?_, ((Fr.refl _ _).alloc _).trans HF.out⟩
    unfold comesB
    rw [← HT.out]
    have := H0.out
    by_cases c : s = t <;> simp [this, c]
    omega
end Go.Proofs.YtdelekkbkpldjaaDoor
