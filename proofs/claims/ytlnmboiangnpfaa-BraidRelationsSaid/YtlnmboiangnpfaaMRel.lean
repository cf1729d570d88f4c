/- Plain mathematics: relations put into a word; the half turn. -/
import Derived.Test.YtlnmboiangnpfaaMSame
namespace Bd

/- what the law puts in -/
def relator (a b : Nat) : List Int :=
  if a = b then [(a : Int), -(a : Int)]
  else if near a b then [(a : Int), b, a, -(b : Int), -(a : Int), -(b : Int)] else [(a : Int), b, -(a : Int), -(b : Int)]
theorem relator_rel {n a b : Nat} (ha : a ∈ lets n) (hb : b ∈ lets n) : RelF n (relator a b) [] := by
  unfold relator
  split
  · exact .cancel _
  · split
    · next h =>
      have h1 := (RelF.near ha hb h).app2 (RelF.refl (rinv [(b : Int), a, b]))
      exact h1.trans (relF_inv _)
    · next h =>
      have h1 := (RelF.far ha hb (by simpa using h)).app2 (RelF.refl (rinv [(b : Int), a]))
      exact h1.trans (relF_inv _)
theorem relator_word {n a b : Nat} (ha : a ∈ lets n) (hb : b ∈ lets n) : Word n (relator a b) := by
  have h1 := let_nat ha
  have h2 := let_nat hb
  unfold relator
  split
  · exact word_cons.2 ⟨h1, word_cons.2 ⟨h1.neg, word_nil⟩⟩
  · split
    · exact word_cons.2 ⟨h1, word_cons.2 ⟨h2, word_cons.2 ⟨h1, word_cons.2 ⟨h2.neg, word_cons.2 ⟨h1.neg, word_cons.2 ⟨h2.neg, word_nil⟩⟩⟩⟩⟩⟩
    · exact word_cons.2 ⟨h1, word_cons.2 ⟨h2, word_cons.2 ⟨h1.neg, word_cons.2 ⟨h2.neg, word_nil⟩⟩⟩⟩
theorem relator_length (a b : Nat) : (relator a b).length ≤ 6 := by
  unfold relator
  split
  · simp
  · split <;> simp
theorem put_rel {n a b : Nat} (ha : a ∈ lets n) (hb : b ∈ lets n) (u : List Int) (k : Nat) : RelF n u (u.take k ++ relator a b ++ u.drop k) := by
  have h := (relator_rel ha hb).app (u.take k) (u.drop k)
  rw [List.append_nil, List.take_append_drop] at h
  exact h.symm
theorem put_word {n a b : Nat} (ha : a ∈ lets n) (hb : b ∈ lets n) {u : List Int} (hu : Word n u) (k : Nat) : Word n (u.take k ++ relator a b ++ u.drop k) :=
  word_app.2 ⟨word_app.2 ⟨fun x hx => hu x (List.mem_of_mem_take hx), relator_word ha hb⟩, fun x hx => hu x (List.mem_of_mem_drop hx)⟩

/- the half turn, as the loop makes it -/
def up (k : Nat) : List Int := (List.range k).map fun (i : Nat) => (i : Int) + 1
theorem up_succ (k : Nat) : up (k + 1) = up k ++ [(k : Int) + 1] := by simp [up, List.range_succ]
theorem up_length (k : Nat) : (up k).length = k := by simp [up]
def half (n : Nat) : Nat → List Int
  | 0 => []
  | d + 1 => half n d ++ up (n - 1 - d)
theorem half_le {n : Nat} (hn : n ≤ 5) : ∀ d, d ≤ 4 → (half n d).length ≤ 4 * d
  | 0, _ => by simp [half]
  | d + 1, h => by
    have := half_le hn d (by omega)
    simp only [half, List.length_append, up_length]
    omega
theorem half_word {n : Nat} : ∀ d, Word n (half n d)
  | 0 => word_nil
  | d + 1 => word_app.2 ⟨half_word d, by
      intro x hx
      obtain ⟨i, hi, rfl⟩ := List.mem_map.1 hx
      rw [List.mem_range] at hi
      exact .inl ⟨by omega, by omega⟩⟩

def lwB (n : Nat) : List Pm → Bool
  | [] => true
  | [_] => true
  | p :: q :: B => ((lets n).all fun i => !starts q i || ends p i) && lwB n (q :: B)
theorem lw_of_b {n : Nat} : ∀ {L : List Pm}, lwB n L = true → LW n L
  | [], _ => trivial
  | [_], _ => trivial
  | p :: q :: B, h => by
    simp only [lwB, Bool.and_eq_true, List.all_eq_true] at h
    refine ⟨fun i hi hs => ?_, lw_of_b h.2⟩
    have := h.1 i hi
    rw [hs] at this
    simpa using this
def chkH (n : Nat) : Bool :=
  let M := norm n 100 (run n start (half n (n - 1))).2
  lwB n M && decide ((strip n (run n start (half n (n - 1))).1 M).1 = 1) && (lets n).all fun b => actL n (half n (n - 1) ++ half n (n - 1) ++ [(b : Int)]) == actL n ([(b : Int)] ++ (half n (n - 1) ++ half n (n - 1)))
theorem chkH_ok : [3, 4].all chkH = true := by decide +kernel
theorem half_power {n : Nat} (hn : n ∈ ns) (h : n = 3 ∨ n = 4) {s : St} (hs : IsNf n (run n start (half n (n - 1))) s) : s.1 = 1 := by
  have h1 : chkH n = true := by
    have := List.all_eq_true.1 chkH_ok
    rcases h with rfl | rfl <;> exact this _ (by simp)
  simp only [chkH, Bool.and_eq_true, decide_eq_true_eq] at h1
  have h2 : IsNf n (run n start (half n (n - 1))) (strip n (run n start (half n (n - 1))).1 (norm n 100 (run n start (half n (n - 1))).2)) :=
    ⟨_, norm_steps _ _, irr_of_lw (lw_of_b h1.1.1), rfl⟩
  rw [isNf_unique hn (run_allP hn (half_word _) fun _ h => by cases h) hs h2]
  exact h1.1.2
theorem full_act {n b : Nat} (h : n = 3 ∨ n = 4) (hb : b ∈ lets n) : actL n (half n (n - 1) ++ half n (n - 1) ++ [(b : Int)]) = actL n ([(b : Int)] ++ (half n (n - 1) ++ half n (n - 1))) := by
  have h1 : chkH n = true := by
    have := List.all_eq_true.1 chkH_ok
    rcases h with rfl | rfl <;> exact this _ (by simp)
  simp only [chkH, Bool.and_eq_true, List.all_eq_true, beq_iff_eq] at h1
  exact h1.2 b hb
theorem half_three : (half 3 2).length = 3 := by decide
theorem half_four : (half 4 3).length = 6 := by decide
theorem half_five : (half 5 4).length = 10 := by decide
end Bd
