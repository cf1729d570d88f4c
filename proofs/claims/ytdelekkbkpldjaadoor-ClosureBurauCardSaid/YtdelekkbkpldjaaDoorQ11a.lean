/- Walks: Close and Alexander of closed words. -/
import Derived.Test.YtdelekkbkpldjaaDoorQ10
import Derived.Test.YtdelekkbkpldjaaDoorQ3
namespace Go.Proofs.YtdelekkbkpldjaaDoor
open Go.RowKit

section
open Kn
theorem clos_op {n : Nat} {w : List Int} {A : List Nat} {N : Nat × Nat → Nat} (h : Clo w A N) (hw : LetsM n w) (hn : 0 < n) (h5 : n ≤ 16) (hl : w.length ≤ 16) : opC (closX w A) (((List.range n).countP (freeB w) : Nat) : Int) = 0 := by
  have hle : (List.range n).countP (freeB w) ≤ n := by
    have := List.countP_le_length (p := freeB w) (l := List.range n)
    rwa [List.length_range] at this
  have hpos : ¬ ((closX w A).length = 0 ∧ (List.range n).countP (freeB w) = 0) := by
    rw [closX_len]
    rintro ⟨c, c2⟩
    have e1 : (List.range n).countP (freeB w) = (List.range n).length := List.countP_eq_length.2 fun q _ => freeB_iff.2 fun k hk => by have := hk.1; omega
    rw [e1, List.length_range] at c2; omega
  unfold opC
  have hm : mayB (closX w A) (((List.range n).countP (freeB w) : Nat) : Int) = true := by
    unfold mayB
    rw [(ok_iff _).2 h.ok, closX_len] at *
    simp only [Bool.and_true, Bool.and_eq_true, decide_eq_true_eq, Bool.not_eq_true', Bool.and_eq_false_iff, decide_eq_false_iff_not]
    omega
  rw [if_pos hm, if_pos (h.planar hw)]
end
abbrev LpC (n : Nat) (xs : List Int) : Nat := (List.range n).countP (Kn.freeB xs)
theorem lp_le (n : Nat) (xs : List Int) : LpC n xs ≤ n := by
  have := List.countP_le_length (p := Kn.freeB xs) (l := List.range n)
  rwa [List.length_range] at this
def CloA (w : World) (xs : List Int) (a : Option Addr) (A : List Nat) : Prop := CrsAt w a (Kn.closX xs A) ∧ ∃ N, Kn.Clo xs A N
theorem CloA.new {w w' : World} {xs : List Int} {a : Option Addr} {A : List Nat} (h : CloA w xs a A) (hn : New w w') : CloA w' xs a A := ⟨New.crs hn h.1, h.2⟩
theorem closeR_any (a : Option Addr) (len c n : Nat) (i : Int) (xs : List Int) (w : World) (hi : i = n) (hl : len = xs.length) (h2 : 2 ≤ n) (h5 : n ≤ 5) (hx : IntsAt w a xs) (hw : Kn.LetsM n xs) (lx : xs.length ≤ 16) :
    Calls Tryd.prog 7 #[.int .i64 i, .slice a len c] w fun e w' => ∃ a' c' A, e = .returned (.tuple #[.agg #[.slice a' len c', .int .i64 (LpC n xs : Nat)], .int .i64 0]) ∧ CloA w' xs a' A ∧ New w w' := by
  obtain ⟨t, N, h1, h3, h4⟩ := Kn.close_clo hw
  refine (close_any a len c n i xs w hi hl h2 h5 hx hw lx t h1).mono ?_
  rintro e w' ⟨a', c', rfl, hc, hn⟩
  exact ⟨a', c', t.A, by rw [h4], ⟨hc, N, h3⟩, hn⟩
theorem alexR_any (a : Option Addr) (len c n : Nat) (xs : List Int) (A : List Nat) (w : World) (hl : len = xs.length) (h : CloA w xs a A) (hw : Kn.LetsM n xs) (h2 : 2 ≤ n) (h5 : n ≤ 5) (lx : xs.length ≤ 9) :
    Calls Tryd.prog 12 #[.agg #[.slice a len c, .int .i64 (LpC n xs : Nat)]] w (fun e w' => New w w' ∧ ∃ v m, e = .returned (.tuple #[v, .int .i64 0]) ∧ Ts w' v m ∧ Pl.size m ≤ 4 ^ xs.length ∧ m.length ≤ 1000000 ∧ Kn.AlexIs (Kn.closX xs A) (LpC n xs) m) := by
  obtain ⟨hc, N, hN⟩ := h
  have := lp_le n xs
  refine (alexander_any a len c (Kn.closX xs A) (LpC n xs) w hc (by rw [Kn.closX_len]; exact hl) (by omega) (by omega) (clos_op hN hw (by omega) (by omega) (by omega))).mono ?_
  rintro e w' ⟨hn, v, m, rfl, ht, hs, ha⟩
  rw [Kn.closX_len] at hs
  have h1 := form_size ha.1.1
  have h3 : 4 ^ xs.length ≤ 4 ^ 9 := Nat.pow_le_pow_right (by decide) lx
  have h4 : (4 : Nat) ^ 9 ≤ 1000000 := by decide
  exact ⟨hn, v, m, rfl, ht, hs, by omega, ha⟩
end Go.Proofs.YtdelekkbkpldjaaDoor
