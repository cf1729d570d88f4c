/- Plain mathematics: determinants row by row for all sets of places. -/
import Derived.Test.YtjgmlicmjpgfcaaDoorMPoly2
namespace Pl
abbrev Tab := List (List (List T))
def ent (m : Tab) (i j : Nat) : List T := (m.getD i []).getD j []
def pop (s : Nat) : Nat := (List.range 3).countP fun k => s.testBit k
def sg (b : Nat) : Int := 1 - 2 * ((b : Int) % 2)
theorem sg_one (b : Nat) : sg b = 1 ∨ sg b = -1 := by unfold sg; omega
def sc (s : Int) (l : List T) : List T := l.map fun t => (t.1, s * t.2)
/- one term: the place k of the set s -/
def term (m : Tab) (t : Nat → List T) (s k : Nat) : List T := if s.testBit k then sc (sg (pop (s >>> (k + 1)))) (mul (ent m (pop s - 1) k) (t (s - 2 ^ k))) else []
def outF (m : Tab) (t : Nat → List T) (s : Nat) : Nat → List T
  | 0 => []
  | k + 1 => outF m t s k ++ term m t s k
def tbF (m : Tab) : Nat → Nat → List T
  | 0, _ => [(0, 1)]
  | f + 1, s => if s = 0 then [(0, 1)] else outF m (tbF m f) s 3
def tb (m : Tab) (s : Nat) : List T := tbF m 3 s
theorem term_congr {m : Tab} {t t' : Nat → List T} {s : Nat} (h : ∀ k, k < 3 → s.testBit k = true → t (s - 2 ^ k) = t' (s - 2 ^ k)) {k : Nat} (hk : k < 3) : term m t s k = term m t' s k := by
  unfold term
  split
  · rw [h k hk (by assumption)]
  · rfl
theorem outF_congr {m : Tab} {t t' : Nat → List T} {s : Nat} (h : ∀ k, k < 3 → s.testBit k = true → t (s - 2 ^ k) = t' (s - 2 ^ k)) : outF m t s 3 = outF m t' s 3 := by
  simp only [outF]
  rw [term_congr h (show 0 < 3 by omega), term_congr h (show 1 < 3 by omega), term_congr h (show 2 < 3 by omega)]
theorem tbF_zero (m : Tab) : ∀ f, tbF m f 0 = [(0, 1)]
  | 0 => rfl
  | _ + 1 => rfl
theorem bits8 {s : Nat} (h : s < 8) : s = 0 ∨ s = 1 ∨ s = 2 ∨ s = 3 ∨ s = 4 ∨ s = 5 ∨ s = 6 ∨ s = 7 := by omega
theorem pop_less {s k : Nat} (hs : s < 8) (hk : k < 3) (h : s.testBit k = true) : pop (s - 2 ^ k) + 1 = pop s ∧ s - 2 ^ k < s := by
  have hk' : k = 0 ∨ k = 1 ∨ k = 2 := by omega
  rcases bits8 hs with rfl | rfl | rfl | rfl | rfl | rfl | rfl | rfl <;> rcases hk' with rfl | rfl | rfl <;> revert h <;> decide
theorem pop_pos {s : Nat} (hs : s < 8) (h : s ≠ 0) : 1 ≤ pop s ∧ pop s ≤ 3 := by
  rcases bits8 hs with rfl | rfl | rfl | rfl | rfl | rfl | rfl | rfl <;> first | exact absurd rfl h | decide
theorem pop_zero {s : Nat} (hs : s < 8) (h : pop s = 0) : s = 0 := by
  rcases bits8 hs with rfl | rfl | rfl | rfl | rfl | rfl | rfl | rfl <;> first | rfl | (exact absurd h (by decide))
theorem tbF_more (m : Tab) : ∀ f s, s < 8 → pop s ≤ f → tbF m (f + 1) s = tbF m f s
  | 0, s, hs, hp => by
    have : s = 0 := pop_zero hs (by omega)
    subst this
    rfl
  | f + 1, s, hs, hp => by
    by_cases h0 : s = 0
    · subst h0; rfl
    · show (if s = 0 then _ else outF m (tbF m (f + 1)) s 3) = (if s = 0 then _ else outF m (tbF m f) s 3)
      rw [if_neg h0, if_neg h0]
      refine outF_congr fun k hk hb => ?_
      have := pop_less hs hk hb
      exact tbF_more m f _ (by omega) (by omega)
theorem tb_zero (m : Tab) : tb m 0 = [(0, 1)] := rfl
theorem tb_eq (m : Tab) {s : Nat} (hs : s < 8) (h0 : s ≠ 0) : tb m s = outF m (tb m) s 3 := by
  have hp := pop_pos hs h0
  unfold tb
  rw [← tbF_more m 3 s hs (by omega)]
  show (if s = 0 then _ else outF m (tbF m 3) s 3) = _
  rw [if_neg h0]

/- bounds: how many, how great -/
def nbF (c : Nat) : Nat → Nat → Nat
  | 0, _ => 1
  | f + 1, s => if s = 0 then 1 else (if s.testBit 0 then c * nbF c f (s - 2 ^ 0) else 0) + (if s.testBit 1 then c * nbF c f (s - 2 ^ 1) else 0) + (if s.testBit 2 then c * nbF c f (s - 2 ^ 2) else 0)
def nb (c s : Nat) : Nat := nbF c 3 s
def nt (c : Nat) (t : Nat → Nat) (s k : Nat) : Nat := if s.testBit k then c * t (s - 2 ^ k) else 0
def nout (c : Nat) (t : Nat → Nat) (s : Nat) : Nat → Nat
  | 0 => 0
  | k + 1 => nout c t s k + nt c t s k
theorem nb_eq (c : Nat) {s : Nat} (hs : s < 8) (h0 : s ≠ 0) : nb c s = nout c (nb c) s 3 := by
  rcases bits8 hs with rfl | rfl | rfl | rfl | rfl | rfl | rfl | rfl
  · exact absurd rfl h0
  all_goals simp [nb, nbF, nout, nt, Nat.testBit, Nat.shiftRight_eq_div_pow]
theorem nb_le {s : Nat} (hs : s < 8) : nb 48 s ≤ 663552 ∧ nb 17 s ≤ 29478 ∧ nb 4 s ≤ 384 := by
  rcases bits8 hs with rfl | rfl | rfl | rfl | rfl | rfl | rfl | rfl <;> decide
theorem nout_le (c : Nat) (t : Nat → Nat) (s : Nat) {k : Nat} (hk : k ≤ 3) : nout c t s k ≤ nout c t s 3 := by
  have hk' : k = 0 ∨ k = 1 ∨ k = 2 ∨ k = 3 := by omega
  rcases hk' with rfl | rfl | rfl | rfl <;> simp only [nout] <;> omega
theorem sc_size {s : Int} (hs : s = 1 ∨ s = -1) (l : List T) : size (sc s l) = size l := by
  induction l with
  | nil => rfl
  | cons t l ih =>
    show size ((t.1, s * t.2) :: sc s l) = _
    rw [size_cons, size_cons, ih]
    show (s * t.2).natAbs + _ = _
    rcases hs with rfl | rfl <;> omega
/- the entries within c -/
def Within (m : Tab) (c : Nat) (E : Int) : Prop := ∀ i j, size (ent m i j) ≤ c ∧ ∀ t ∈ ent m i j, -E ≤ t.1 ∧ t.1 ≤ E
theorem term_size {m : Tab} {c : Nat} {E : Int} (h : Within m c E) {t : Nat → List T} {u : Nat → Nat} {s k : Nat} (ht : s.testBit k = true → size (t (s - 2 ^ k)) ≤ u (s - 2 ^ k)) : size (term m t s k) ≤ nt c u s k := by
  unfold term nt
  split
  · rw [sc_size (sg_one _), size_mul]
    exact Nat.mul_le_mul (h _ _).1 (ht (by assumption))
  · exact Nat.zero_le _
theorem tb_size {m : Tab} {c : Nat} {E : Int} (h : Within m c E) : ∀ n s, s < n → s < 8 → size (tb m s) ≤ nb c s
  | 0, s, hn, _ => by omega
  | n + 1, s, hn, hs => by
    by_cases h0 : s = 0
    · subst h0; exact Nat.le_refl 1
    · rw [tb_eq m hs h0, nb_eq c hs h0]
      have : ∀ k, k ≤ 3 → size (outF m (tb m) s k) ≤ nout c (nb c) s k := by
        intro k
        induction k with
        | zero => intro _; exact Nat.zero_le _
        | succ k ih =>
          intro hk
          show size (outF m (tb m) s k ++ term m (tb m) s k) ≤ nout c (nb c) s k + nt c (nb c) s k
          rw [size_app]
          have h1 := ih (by omega)
          have h2 := term_size h (t := tb m) (u := nb c) (s := s) (k := k) fun hb => by
            have hp := pop_less hs (by omega) hb
            exact tb_size h n _ (by omega) (by omega)
          omega
      exact this 3 (by omega)
theorem out_size {m : Tab} {c : Nat} {E : Int} (h : Within m c E) {s : Nat} (hs : s < 8) : ∀ {k : Nat}, k ≤ 3 → size (outF m (tb m) s k) ≤ nout c (nb c) s k
  | 0, _ => Nat.zero_le _
  | k + 1, hk => by
    show size (outF m (tb m) s k ++ term m (tb m) s k) ≤ nout c (nb c) s k + nt c (nb c) s k
    rw [size_app]
    have h1 := out_size h hs (k := k) (by omega)
    have h2 := term_size h (t := tb m) (u := nb c) (s := s) (k := k) fun hb => by
      have hp := pop_less hs (by omega) hb
      exact tb_size h 8 _ (by omega) (by omega)
    omega
theorem tbF_exps {m : Tab} {c : Nat} {E : Int} (h : Within m c E) (hE : 0 ≤ E) : ∀ f s, ∀ t ∈ tbF m f s, -((f : Int) * E) ≤ t.1 ∧ t.1 ≤ (f : Int) * E
  | 0, s, t, ht => by
    rw [show tbF m 0 s = [(0, 1)] from rfl, List.mem_singleton] at ht
    subst ht
    simp
  | f + 1, s, t, ht => by
    have hf : 0 ≤ (f : Int) * E := Int.mul_nonneg (by omega) hE
    have e1 : ((f + 1 : Nat) : Int) * E = (f : Int) * E + E := by rw [Int.natCast_add, Int.add_mul]; simp
    rw [e1]
    have hterm : ∀ k, ∀ t ∈ term m (tbF m f) s k, -((f : Int) * E + E) ≤ t.1 ∧ t.1 ≤ (f : Int) * E + E := by
      intro k t ht
      unfold term at ht
      split at ht
      · obtain ⟨u, hu, rfl⟩ := List.mem_map.1 ht
        simp only [mul, List.mem_flatMap, List.mem_map] at hu
        obtain ⟨x, hx, y, hy, rfl⟩ := hu
        have h1 := (h _ _).2 x hx
        have h2 := tbF_exps h hE f _ y hy
        show -((f : Int) * E + E) ≤ x.1 + y.1 ∧ x.1 + y.1 ≤ (f : Int) * E + E
        omega
      · cases ht
    have : tbF m (f + 1) s = if s = 0 then [(0, 1)] else outF m (tbF m f) s 3 := rfl
    rw [this] at ht
    split at ht
    · rw [List.mem_singleton] at ht
      subst ht
      show -((f : Int) * E + E) ≤ 0 ∧ 0 ≤ (f : Int) * E + E
      omega
    · simp only [outF, List.mem_append] at ht
      rcases ht with ((ht | ht) | ht) | ht
      · cases ht
      · exact hterm 0 t ht
      · exact hterm 1 t ht
      · exact hterm 2 t ht
theorem tb_exps {m : Tab} {c : Nat} {E : Int} (h : Within m c E) (hE : 0 ≤ E) (s : Nat) : ∀ t ∈ tb m s, -(3 * E) ≤ t.1 ∧ t.1 ≤ 3 * E := tbF_exps h hE 3 s
end Pl
