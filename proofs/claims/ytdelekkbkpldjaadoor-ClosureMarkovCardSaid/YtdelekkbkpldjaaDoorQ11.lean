/- Closed words: what the polynomials tell; plain. -/
import Derived.Test.YtdelekkbkpldjaaDoorQ10
namespace Go.Proofs.YtdelekkbkpldjaaDoor
open Go.RowKit Kn

theorem wrt_ps : ∀ {X : List Cr} {w : List Int}, X.map (fun x => x.p) = w.map (fun a => decide (0 < a)) → wrt X = sgW w
  | [], [], _ => rfl
  | [], _ :: _, h => by simp at h
  | _ :: _, [], h => by simp at h
  | x :: X, a :: w, h => by
    simp only [List.map_cons, List.cons.injEq] at h
    have ih := wrt_ps h.2
    have e : wrt (x :: X) = sgn x.p + wrt X := rfl
    rw [e, ih, sgW, h.1]
    by_cases c : 0 < a <;> simp [sgn, c]
theorem closX_ps (w : List Int) (A : List Nat) : (closX w A).map (fun x => x.p) = w.map (fun a => decide (0 < a)) := by
  refine List.ext_getElem (by simp [closX]) fun i h1 h2 => ?_
  have hi : i < w.length := by simpa using h2
  simp only [closX, List.map_map, List.getElem_map, List.getElem_range, Function.comp, mkC, List.getD_eq_getElem?_getD, List.getElem?_eq_getElem hi, Option.getD_some]
  split <;> simp_all
theorem wrt_clos (w : List Int) (A : List Nat) : wrt (closX w A) = sgW w := wrt_ps (closX_ps w A)
theorem clos_op {n : Nat} {w : List Int} {A : List Nat} {N : Nat × Nat → Nat} (h : Clo w A N) (hw : LetsM n w) (hn : 0 < n) (h5 : n ≤ 16) (hl : w.length ≤ 16) : opC (closX w A) (((List.range n).countP (freeB w) : Nat) : Int) = 0 := by
  have hle : (List.range n).countP (freeB w) ≤ n := by
    have := List.countP_le_length (p := freeB w) (l := List.range n)
    rwa [List.length_range] at this
  have hpos : ¬ ((closX w A).length = 0 ∧ (List.range n).countP (freeB w) = 0) := by
    rw [closX_len]
    rintro ⟨c, c2⟩
    have e1 : (List.range n).countP (freeB w) = (List.range n).length := List.countP_eq_length.2 fun q _ => freeB_iff.2 fun k hk => by have := hk.1; omega
    rw [e1, List.length_range] at c2; omega
  unfold opC
  have hm : mayB (closX w A) (((List.range n).countP (freeB w) : Nat) : Int) = true := by
    unfold mayB
    rw [(ok_iff _).2 h.ok, closX_len] at *
    simp only [Bool.and_true, Bool.and_eq_true, decide_eq_true_eq, Bool.not_eq_true', Bool.and_eq_false_iff, decide_eq_false_iff_not]
    omega
  rw [if_pos hm, if_pos (h.planar hw)]
theorem jones_ev {n : Nat} {w : List Int} {B : List Nat} {N : Nat × Nat → Nat} (h : Clo w B N) (hw : LetsM n w) (hn : 0 < n) (hs : 2 * w.length + n < 64) {m : List Pl.T} (hm : JonesIs (closX w B) ((List.range n).countP (freeB w)) m) {A : Rat} (hA : A ≠ 0) : dA A * Pl.ev A m = Jv A n w := by
  obtain ⟨l, h1, h2⟩ := hm
  have h3 := h.jones hw hn hA hs h2
  have e1 : Pl.ev A m = Pl.ev A (sh (-3 * wrt (closX w B)) (sg (wrt (closX w B))) l) := Pl.ev_congr h1.2 A
  have e2 : Pl.ev A (sh (-3 * wrt (closX w B)) (sg (wrt (closX w B))) l) = (sg (wrt (closX w B)) : Rat) * A ^ (-3 * wrt (closX w B)) * Pl.ev A l := Pl.ev_sh hA _ _ l
  rw [e1, e2, wrt_clos]
  unfold Jv
  have e3 : sg (sgW w) = sgn1 (sgW w) := rfl
  rw [e3, ← h3]
  grind
theorem jones_same {n n' : Nat} {w v : List Int} {B B' : List Nat} {N N' : Nat × Nat → Nat} (h : Clo w B N) (hw : LetsM n w) (hn : 0 < n) (hs : 2 * w.length + n < 64) {m : List Pl.T} (hm : JonesIs (closX w B) ((List.range n).countP (freeB w)) m)
    (h' : Clo v B' N') (hw' : LetsM n' v) (hn' : 0 < n') (hs' : 2 * v.length + n' < 64) {m' : List Pl.T} (hm' : JonesIs (closX v B') ((List.range n').countP (freeB v)) m') (he : ∀ A : Rat, A ≠ 0 → Jv A n w = Jv A n' v) : m = m' := by
  refine Pl.is_unique_ev ?_ ?_ fun M hM => ?_
  · obtain ⟨l, h1, _⟩ := hm; exact h1.1
  · obtain ⟨l, h1, _⟩ := hm'; exact h1.1
  · have hM0 : (M : Rat) ≠ 0 := fun e => by rw [Rat.intCast_eq_zero_iff] at e; omega
    have e1 := jones_ev h hw hn hs hm hM0
    have e2 := jones_ev h' hw' hn' hs' hm' hM0
    rw [he _ hM0, ← e2] at e1
    have hd := dA_ne hM
    have : dA (M : Rat) * (Pl.ev M m - Pl.ev M m') = 0 := by grind
    rcases Rat.mul_eq_zero.1 this with c | c
    · exact absurd c hd
    · grind
/- the value at 1 is no multiple of 3 -/
theorem two_mod (n : Nat) : (2 : Int) ^ n % 3 ≠ 0 := by
  induction n with
  | zero => decide
  | succ n ih => rw [Int.pow_succ]; omega
theorem m2_mod (k : Nat) : (-2 : Int) ^ k % 3 = 1 := by
  induction k with
  | zero => decide
  | succ n ih => rw [Int.pow_succ]; omega
theorem sum_mod {α : Type} (f : α → Nat) : ∀ l : List α, sumI l (fun a => (-2 : Int) ^ f a) % 3 = (l.length : Int) % 3
  | [] => rfl
  | a :: l => by
    have ih := sum_mod f l
    have h1 := m2_mod (f a)
    have e : sumI (a :: l) (fun a => (-2 : Int) ^ f a) = (-2 : Int) ^ f a + sumI l (fun a => (-2 : Int) ^ f a) := rfl
    rw [e, List.length_cons]
    omega
theorem sum_cast {α : Type} (f : α → Nat) : ∀ l : List α, sumQ l (fun a => (1 : Rat) ^ (0 : Int) * (-2 : Rat) ^ f a) = ((sumI l fun a => (-2 : Int) ^ f a : Int) : Rat)
  | [] => rfl
  | a :: l => by
    have e : sumI (a :: l) (fun a => (-2 : Int) ^ f a) = (-2 : Int) ^ f a + sumI l (fun a => (-2 : Int) ^ f a) := rfl
    rw [sumQ_cons, sum_cast f l, e, Rat.intCast_add, Rat.intCast_pow]
    have : ((-2 : Int) : Rat) = -2 := rfl
    rw [this, Rat.zpow_zero]; grind
theorem one_zpow' (z : Int) : (1 : Rat) ^ z = (1 : Rat) ^ (0 : Int) := by
  have h : ∀ k : Nat, (1 : Rat) ^ (k : Int) = 1 := fun k => by
    induction k with
    | zero => exact Rat.zpow_zero 1
    | succ k ih =>
      rw [Int.natCast_add, Rat.zpow_add (by decide), ih]
      show (1 : Rat) * (1 : Rat) ^ (1 : Int) = 1
      rw [Rat.zpow_one]; decide +kernel
  rw [Rat.zpow_zero]
  rcases Int.le_total 0 z with c | c
  · obtain ⟨k, rfl⟩ := Int.eq_ofNat_of_zero_le c
    exact h k
  · obtain ⟨k, hk⟩ := Int.eq_ofNat_of_zero_le (a := -z) (by omega)
    have : z = -(k : Int) := by omega
    rw [this, Rat.zpow_neg, h k]; decide +kernel
theorem jones_pos {n : Nat} {w : List Int} {B : List Nat} {N : Nat × Nat → Nat} (h : Clo w B N) (hs : 2 * w.length + n < 64) {m : List Pl.T} (hm : JonesIs (closX w B) ((List.range n).countP (freeB w)) m) : m ≠ [] := by
  rintro rfl
  obtain ⟨l, h1, h2⟩ := hm
  have hle : (List.range n).countP (freeB w) ≤ n := by
    have := List.countP_le_length (p := freeB w) (l := List.range n)
    rwa [List.length_range] at this
  have h0 : ∀ e, Pl.co l e = Pl.co [] e := fun e => by
    have := h1.2 (e + -3 * wrt (closX w B))
    rw [sh_co, show e + -3 * wrt (closX w B) - -3 * wrt (closX w B) = e by omega] at this
    have hsg : sg (wrt (closX w B)) = 1 ∨ sg (wrt (closX w B)) = -1 := by unfold sg; omega
    have z : Pl.co ([] : List Pl.T) (e + -3 * wrt (closX w B)) = 0 := rfl
    have z2 : Pl.co ([] : List Pl.T) e = 0 := rfl
    rw [z] at this
    rw [z2]
    rcases hsg with c | c <;> rw [c] at this <;> omega
  have h3 := kinds_ev (A := 1) (by decide) (by rw [closX_len]; omega) h2
  have hd : dA 1 = -2 := by decide +kernel
  have e0 : Pl.ev (1 : Rat) l = 0 := by rw [Pl.ev_congr h0]; rfl
  rw [e0, hd] at h3
  have e4 : (sumQ (List.range (2 ^ (closX w B).length)) fun st => (1 : Rat) ^ (((closX w B).length : Int) - 2 * (pop (closX w B).length st : Nat)) * (-2 : Rat) ^ (ringsN (closX w B) ((List.range n).countP (freeB w)) st - 1)) = sumQ (List.range (2 ^ (closX w B).length)) fun st => (1 : Rat) ^ (0 : Int) * (-2 : Rat) ^ (ringsN (closX w B) ((List.range n).countP (freeB w)) st - 1) := sumQ_congr fun st _ => by rw [one_zpow']
  rw [e4, sum_cast] at h3
  have e5 := Rat.intCast_eq_zero_iff.1 h3.symm
  have e6 := sum_mod (fun st => ringsN (closX w B) ((List.range n).countP (freeB w)) st - 1) (List.range (2 ^ (closX w B).length))
  rw [e5, List.length_range] at e6
  have e7 := two_mod (closX w B).length
  rw [Int.natCast_pow] at e6
  exact e7 e6.symm
theorem alex_eq {n n' : Nat} {w v : List Int} {B B' : List Nat} {N N' : Nat × Nat → Nat} (h : Clo w B N) (hw : LetsM n w) (hn : 2 ≤ n) (h' : Clo v B' N') (hw' : LetsM n' v) (hn' : 2 ≤ n') {a a' : List Pl.T} (ha : AlexIs (closX w B) ((List.range n).countP (freeB w)) a) (ha' : AlexIs (closX v B') ((List.range n').countP (freeB v)) a')
    (he : ∀ t : Rat, t ≠ 0 → Eu t (AL t n w) (AL t n' v)) : a = a' :=
  alex_same ha ha' fun t ht => (h.alex hw hn ht).trans ht ((he t ht).trans ht ((h'.alex hw' hn' ht).symm ht))
end Go.Proofs.YtdelekkbkpldjaaDoor
