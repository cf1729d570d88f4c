/- slices.SortStableFunc at views. -/
import Derived.Test.YtgjmjbgicfkojaaGreatW21
namespace Go.Proofs.YtgjmjbgicfkojaaGreat
open Go.RowKit Go.Sort

set_option maxHeartbeats 2000000 in
theorem stable_own (base : Nat) (v : Value) (ts : List TV) (w : World) (ho : w.ownsRow base 94 2 v ts.length (ts.flatMap vcell)) (hv : ∀ t ∈ ts, VwAt w t) (hl : ts.length ≤ 16) :
    Calls Tryz.prog 73 #[v, .int .i64 ts.length, .func (.func 43) #[] #[]] w fun e w' => e = .returned (.tuple #[]) ∧ ∃ ts' : List TV, ts'.Perm ts ∧ (ts'.map (·.2)).Pairwise (fun a b => Kn.cmpV a b ≤ 0) ∧ w'.ownsRow base 94 2 v ts'.length (ts'.flatMap vcell) ∧ w.grownBy w' v.ownBlock := by
  obtain ⟨R, HR⟩ : ∃ R : World → Prop, Hid (∀ w', R w' ↔ ∃ ts' : List TV, ts'.Perm ts ∧ (ts'.map (·.2)).Pairwise (fun a b => Kn.cmpV a b ≤ 0) ∧ w'.ownsRow base 94 2 v ts'.length (ts'.flatMap vcell) ∧ w.grownBy w' v.ownBlock) := ⟨_, Lib.hid fun _ => Iff.rfl⟩
  have hc := (insert_own base v ts w ho hv (by omega)).mono (R' := fun e w' => e = .returned (.tuple #[]) ∧ R w') fun e w' h => ⟨h.1, (HR.out w').2 h.2⟩
  suffices hs : Calls Tryz.prog 73 #[v, .int .i64 ts.length, .func (.func 43) #[] #[]] w (fun e w' => e = .returned (.tuple #[]) ∧ R w') from hs.mono fun e w' h => ⟨h.1, (HR.out w').1 h.2⟩
  obtain ⟨a, c, rfl, _⟩ := own_shape2 ho
  clear HR ho hv
  obtain ⟨n, hn⟩ : ∃ n, n = ts.length := ⟨_, rfl⟩
  rw [← hn] at hl hc ⊢
  clear hn
  have h20 : (n : Int) < 20 := by omega
  have HC := Lib.hid hc
  clear hc
  go_enter Tryz.func73, Tryz.ntmps73
  go_wp2
  refine wp_loop_rounds 1 ?_
  rw [rounds_succ]
  go_wp2_with (go_at_call 84; refine HC.out.mono ?_; rintro e w' ⟨rfl, hR⟩; have HRw := Lib.hid hR; clear hR)
  refine wp_loop_rounds 1 ?_
  rw [rounds_succ]
  go_wp2
  go_end0
  exact ⟨rfl, HRw.out⟩
theorem sortV_own (base : Nat) (v : Value) (ts : List TV) (w : World) (ho : w.ownsRow base 94 2 v ts.length (ts.flatMap vcell)) (hv : ∀ t ∈ ts, VwAt w t) (hl : ts.length ≤ 16) :
    Calls Tryz.prog 42 #[v, .func (.func 43) #[] #[]] w fun e w' => e = .returned (.tuple #[]) ∧ ∃ ts' : List TV, ts'.Perm ts ∧ (ts'.map (·.2)).Pairwise (fun a b => Kn.cmpV a b ≤ 0) ∧ w'.ownsRow base 94 2 v ts'.length (ts'.flatMap vcell) ∧ w.grownBy w' v.ownBlock := by
  obtain ⟨R, HR⟩ : ∃ R : World → Prop, Hid (∀ w', R w' ↔ ∃ ts' : List TV, ts'.Perm ts ∧ (ts'.map (·.2)).Pairwise (fun a b => Kn.cmpV a b ≤ 0) ∧ w'.ownsRow base 94 2 v ts'.length (ts'.flatMap vcell) ∧ w.grownBy w' v.ownBlock) := ⟨_, Lib.hid fun _ => Iff.rfl⟩
  have hc := (stable_own base v ts w ho hv hl).mono (R' := fun e w' => e = .returned (.tuple #[]) ∧ R w') fun e w' h => ⟨h.1, (HR.out w').2 h.2⟩
  suffices hs : Calls Tryz.prog 42 #[v, .func (.func 43) #[] #[]] w (fun e w' => e = .returned (.tuple #[]) ∧ R w') from hs.mono fun e w' h => ⟨h.1, (HR.out w').1 h.2⟩
  obtain ⟨a, c, rfl, _⟩ := own_shape2 ho
  clear HR ho hv
  obtain ⟨n, hn⟩ : ∃ n, n = ts.length := ⟨_, rfl⟩
  rw [← hn] at hl hc ⊢
  clear hn
  have HC := Lib.hid hc
  clear hc
  go_enter Tryz.func42, Tryz.ntmps42
  go_wp2_with (go_at_call 73; refine HC.out.mono ?_; rintro e w' ⟨rfl, hR⟩; have HRw := Lib.hid hR; clear hR)
  go_end0
  exact ⟨rfl, HRw.out⟩
end Go.Proofs.YtgjmjbgicfkojaaGreat
