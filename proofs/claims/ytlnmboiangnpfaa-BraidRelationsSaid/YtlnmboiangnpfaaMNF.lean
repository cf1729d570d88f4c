/- Plain mathematics of left-weighted normal forms: a rewriting system on lists of permutations. No program in sight. -/
namespace Bd

abbrev Pm := List Nat

def sw (i x : Nat) : Nat := if x = i then i + 1 else if x = i + 1 then i else x
def idn (n : Nat) : Pm := List.range (n + 1)
def thn (p : Pm) (i : Nat) : Pm := p.map (sw i)
def swp (q : Pm) (i : Nat) : Pm := (q.set i (q.getD (i + 1) 0)).set (i + 1) (q.getD i 0)
def starts (q : Pm) (i : Nat) : Bool := decide (q.getD (i + 1) 0 < q.getD i 0)
def ends (p : Pm) (i : Nat) : Bool := decide (p.idxOf (i + 1) < p.idxOf i)
def delta (n : Nat) : Pm := 0 :: (List.range n).map (n - ·)
def flp (n : Nat) (p : Pm) : Pm := 0 :: (List.range n).map fun k => n + 1 - p.getD (n - k) 0
def gen (n i : Nat) : Pm := thn (idn n) i

def ins (x : Nat) : List Nat → List (List Nat)
  | [] => [[x]]
  | y :: l => (x :: y :: l) :: (ins x l).map (y :: ·)
def perml : List Nat → List (List Nat)
  | [] => [[]]
  | x :: l => (perml l).flatMap (ins x)
def perms (n : Nat) : List Pm := (perml ((List.range n).map (· + 1))).map (0 :: ·)
def lets (n : Nat) : List Nat := (List.range (n - 1)).map (· + 1)

def inv : Pm → Nat
  | [] => 0
  | x :: l => (l.filter (· < x)).length + inv l

theorem mem_lets {n i : Nat} : i ∈ lets n ↔ 1 ≤ i ∧ i < n := by
  simp only [lets, List.mem_map, List.mem_range]
  constructor
  · rintro ⟨a, h, rfl⟩; omega
  · rintro ⟨h1, h2⟩; exact ⟨i - 1, by omega, by omega⟩

/- ---- the finite checks, for two to five strands ---- -/
def ns : List Nat := [2, 3, 4, 5]
def near (i j : Nat) : Bool := i + 1 == j || j + 1 == i

def chk1 (n : Nat) : Bool := (perms n).all fun p => (lets n).all fun i => (perms n).contains (thn p i) && (perms n).contains (swp p i)
def chk1b (n : Nat) : Bool := (perms n).all fun p => (perms n).contains (flp n p)
def chk2 (n : Nat) : Bool := (perms n).all fun p => (lets n).all fun i => (lets n).all fun j =>
  i == j || ends p i || ends p j ||
    (if near i j then !ends (thn p i) j && !ends (thn (thn p i) j) i && thn (thn (thn p i) j) i == thn (thn (thn p j) i) j
     else !ends (thn p i) j && thn (thn p i) j == thn (thn p j) i)
def chk3 (n : Nat) : Bool := (perms n).all fun p => (lets n).all fun i => (lets n).all fun j =>
  i == j || !starts p i || !starts p j ||
    (if near i j then starts (swp p i) j && starts (swp (swp p i) j) i && swp (swp (swp p i) j) i == swp (swp (swp p j) i) j
     else starts (swp p i) j && swp (swp p i) j == swp (swp p j) i)
def chk4 (n : Nat) : Bool := (perms n).all fun q => (lets n).all fun i => (lets n).all fun j =>
  !starts q i || ends q j || (starts (thn q j) i && !ends (swp q i) j && swp (thn q j) i == thn (swp q i) j)
def chk5 (n : Nat) : Bool := (perms n).all fun p => (lets n).all fun i =>
  (ends p i || inv (thn p i) == inv p + 1) && (!starts p i || inv (swp p i) + 1 == inv p)
def chk6 (n : Nat) : Bool := (perms n).all fun p =>
  ((lets n).any (fun i => starts p i) || p == idn n) && ((lets n).any (fun i => !ends p i) || p == delta n)
def chk6b (n : Nat) : Bool := (lets n).all fun i => !starts (idn n) i && ends (delta n) i
def chk7 (n : Nat) : Bool := (perms n).all fun p => flp n (flp n p) == p && (lets n).all fun i =>
  flp n (thn p i) == thn (flp n p) (n - i) && flp n (swp p i) == swp (flp n p) (n - i) && starts (flp n p) (n - i) == starts p i && ends (flp n p) (n - i) == ends p i
def chk7b (n : Nat) : Bool := flp n (delta n) == delta n && flp n (idn n) == idn n && (perms n).contains (delta n) && (perms n).contains (idn n) && delta n != idn n

theorem chk1_ok : ns.all chk1 = true := by decide +kernel
theorem chk1b_ok : ns.all chk1b = true := by decide +kernel
theorem chk2_ok : ns.all chk2 = true := by decide +kernel
theorem chk3_ok : ns.all chk3 = true := by decide +kernel
theorem chk4_ok : ns.all chk4 = true := by decide +kernel
theorem chk5_ok : ns.all chk5 = true := by decide +kernel
theorem chk6_ok : ns.all chk6 = true := by decide +kernel
theorem chk6b_ok : ns.all chk6b = true := by decide +kernel
theorem chk7_ok : ns.all chk7 = true := by decide +kernel
theorem chk7b_ok : ns.all chk7b = true := by decide +kernel


/- ---- the checks as facts ---- -/
theorem mem_ns {n : Nat} (h2 : 2 ≤ n) (h5 : n ≤ 5) : n ∈ ns := by
  have : n = 2 ∨ n = 3 ∨ n = 4 ∨ n = 5 := by omega
  rcases this with rfl | rfl | rfl | rfl <;> decide

section facts
variable {n : Nat} (hn : n ∈ ns)
include hn

theorem thn_mem {p : Pm} {i : Nat} (hp : p ∈ perms n) (hi : i ∈ lets n) : thn p i ∈ perms n := by
  have h := List.all_eq_true.1 (List.all_eq_true.1 (List.all_eq_true.1 chk1_ok n hn) p hp) i hi
  simp only [Bool.and_eq_true, List.contains_iff_mem] at h
  exact h.1
theorem swp_mem {p : Pm} {i : Nat} (hp : p ∈ perms n) (hi : i ∈ lets n) : swp p i ∈ perms n := by
  have h := List.all_eq_true.1 (List.all_eq_true.1 (List.all_eq_true.1 chk1_ok n hn) p hp) i hi
  simp only [Bool.and_eq_true, List.contains_iff_mem] at h
  exact h.2
theorem flp_mem {p : Pm} (hp : p ∈ perms n) : flp n p ∈ perms n := by
  have h := List.all_eq_true.1 (List.all_eq_true.1 chk1b_ok n hn) p hp
  simpa only [List.contains_iff_mem] using h
theorem idn_mem : idn n ∈ perms n := by
  have h := List.all_eq_true.1 chk7b_ok n hn
  simp only [chk7b, Bool.and_eq_true, List.contains_iff_mem] at h
  exact h.1.2
theorem delta_mem : delta n ∈ perms n := by
  have h := List.all_eq_true.1 chk7b_ok n hn
  simp only [chk7b, Bool.and_eq_true, List.contains_iff_mem] at h
  exact h.1.1.2
theorem delta_ne : delta n ≠ idn n := by
  have h := List.all_eq_true.1 chk7b_ok n hn
  simp only [chk7b, Bool.and_eq_true, bne_iff_ne] at h
  exact h.2
theorem flp_delta : flp n (delta n) = delta n := by
  have h := List.all_eq_true.1 chk7b_ok n hn
  simp only [chk7b, Bool.and_eq_true, beq_iff_eq] at h
  exact h.1.1.1.1
theorem flp_idn : flp n (idn n) = idn n := by
  have h := List.all_eq_true.1 chk7b_ok n hn
  simp only [chk7b, Bool.and_eq_true, beq_iff_eq] at h
  exact h.1.1.1.2
theorem starts_idn {i : Nat} (hi : i ∈ lets n) : starts (idn n) i = false := by
  have h := List.all_eq_true.1 (List.all_eq_true.1 chk6b_ok n hn) i hi
  simp only [Bool.and_eq_true, Bool.not_eq_true'] at h
  exact h.1
theorem ends_delta {i : Nat} (hi : i ∈ lets n) : ends (delta n) i = true := by
  have h := List.all_eq_true.1 (List.all_eq_true.1 chk6b_ok n hn) i hi
  simp only [Bool.and_eq_true, Bool.not_eq_true'] at h
  exact h.2
theorem eq_idn {p : Pm} (hp : p ∈ perms n) (h0 : ∀ i ∈ lets n, starts p i = false) : p = idn n := by
  have h := List.all_eq_true.1 (List.all_eq_true.1 chk6_ok n hn) p hp
  simp only [Bool.and_eq_true, Bool.or_eq_true, List.any_eq_true, beq_iff_eq] at h
  rcases h.1 with ⟨i, hi, hs⟩ | h
  · rw [h0 i hi] at hs; cases hs
  · exact h
theorem eq_delta {p : Pm} (hp : p ∈ perms n) (h0 : ∀ i ∈ lets n, ends p i = true) : p = delta n := by
  have h := List.all_eq_true.1 (List.all_eq_true.1 chk6_ok n hn) p hp
  simp only [Bool.and_eq_true, Bool.or_eq_true, List.any_eq_true, beq_iff_eq, Bool.not_eq_true'] at h
  rcases h.2 with ⟨i, hi, hs⟩ | h
  · rw [h0 i hi] at hs; cases hs
  · exact h
theorem ends_two {p : Pm} {i j : Nat} (hp : p ∈ perms n) (hi : i ∈ lets n) (hj : j ∈ lets n) (hij : i ≠ j) (ei : ends p i = false) (ej : ends p j = false) :
    if near i j then ends (thn p i) j = false ∧ ends (thn (thn p i) j) i = false ∧ thn (thn (thn p i) j) i = thn (thn (thn p j) i) j
    else ends (thn p i) j = false ∧ thn (thn p i) j = thn (thn p j) i := by
  have h := List.all_eq_true.1 (List.all_eq_true.1 (List.all_eq_true.1 (List.all_eq_true.1 chk2_ok n hn) p hp) i hi) j hj
  split
  · next hne => simpa [hij, ei, ej, hne, and_assoc] using h
  · next hne => simpa [hij, ei, ej, hne, and_assoc] using h
theorem starts_two {p : Pm} {i j : Nat} (hp : p ∈ perms n) (hi : i ∈ lets n) (hj : j ∈ lets n) (hij : i ≠ j) (ei : starts p i = true) (ej : starts p j = true) :
    if near i j then starts (swp p i) j = true ∧ starts (swp (swp p i) j) i = true ∧ swp (swp (swp p i) j) i = swp (swp (swp p j) i) j
    else starts (swp p i) j = true ∧ swp (swp p i) j = swp (swp p j) i := by
  have h := List.all_eq_true.1 (List.all_eq_true.1 (List.all_eq_true.1 (List.all_eq_true.1 chk3_ok n hn) p hp) i hi) j hj
  split
  · next hne => simpa [hij, ei, ej, hne, and_assoc] using h
  · next hne => simpa [hij, ei, ej, hne, and_assoc] using h
theorem both_sides {q : Pm} {i j : Nat} (hq : q ∈ perms n) (hi : i ∈ lets n) (hj : j ∈ lets n) (si : starts q i = true) (ej : ends q j = false) :
    starts (thn q j) i = true ∧ ends (swp q i) j = false ∧ swp (thn q j) i = thn (swp q i) j := by
  have h := List.all_eq_true.1 (List.all_eq_true.1 (List.all_eq_true.1 (List.all_eq_true.1 chk4_ok n hn) q hq) i hi) j hj
  simpa [si, ej, and_assoc] using h
theorem inv_thn {p : Pm} {i : Nat} (hp : p ∈ perms n) (hi : i ∈ lets n) (e : ends p i = false) : inv (thn p i) = inv p + 1 := by
  have h := List.all_eq_true.1 (List.all_eq_true.1 (List.all_eq_true.1 chk5_ok n hn) p hp) i hi
  simp only [e, Bool.false_or, Bool.and_eq_true, beq_iff_eq] at h
  exact h.1
theorem inv_swp {p : Pm} {i : Nat} (hp : p ∈ perms n) (hi : i ∈ lets n) (e : starts p i = true) : inv (swp p i) + 1 = inv p := by
  have h := List.all_eq_true.1 (List.all_eq_true.1 (List.all_eq_true.1 chk5_ok n hn) p hp) i hi
  simp only [e, Bool.not_true, Bool.false_or, Bool.and_eq_true, beq_iff_eq] at h
  exact h.2
theorem flp_flp {p : Pm} (hp : p ∈ perms n) : flp n (flp n p) = p := by
  have h := List.all_eq_true.1 (List.all_eq_true.1 chk7_ok n hn) p hp
  simp only [Bool.and_eq_true, beq_iff_eq] at h
  exact h.1
theorem flp_all {p : Pm} {i : Nat} (hp : p ∈ perms n) (hi : i ∈ lets n) :
    flp n (thn p i) = thn (flp n p) (n - i) ∧ flp n (swp p i) = swp (flp n p) (n - i) ∧ starts (flp n p) (n - i) = starts p i ∧ ends (flp n p) (n - i) = ends p i := by
  have h := List.all_eq_true.1 (List.all_eq_true.1 chk7_ok n hn) p hp
  simp only [Bool.and_eq_true, beq_iff_eq] at h
  have h := List.all_eq_true.1 h.2 i hi
  simpa only [Bool.and_eq_true, beq_iff_eq, and_assoc] using h
omit hn in
theorem flp_let {i : Nat} (hi : i ∈ lets n) : n - i ∈ lets n := by
  rw [mem_lets] at hi ⊢; omega
end facts

/- ---- the rewriting system ---- -/
def AllP (n : Nat) (L : List Pm) : Prop := ∀ p ∈ L, p ∈ perms n

inductive Step (n : Nat) : List Pm → List Pm → Prop
  | here {p q : Pm} {B : List Pm} {i : Nat} (hi : i ∈ lets n) (hs : starts q i = true) (he : ends p i = false) : Step n (p :: q :: B) (thn p i :: swp q i :: B)
  | there {p : Pm} {L L' : List Pm} (h : Step n L L') : Step n (p :: L) (p :: L')

inductive Steps (n : Nat) : List Pm → List Pm → Prop
  | refl (L : List Pm) : Steps n L L
  | head {L M N : List Pm} (h : Step n L M) (t : Steps n M N) : Steps n L N

namespace Steps
variable {n : Nat}
theorem one {L M : List Pm} (h : Step n L M) : Steps n L M := .head h (.refl _)
theorem trans {L M N : List Pm} (h : Steps n L M) (h' : Steps n M N) : Steps n L N := by
  induction h with
  | refl => exact h'
  | head s _ ih => exact .head s (ih h')
theorem cons {p : Pm} {L M : List Pm} (h : Steps n L M) : Steps n (p :: L) (p :: M) := by
  induction h with
  | refl => exact .refl _
  | head s _ ih => exact .head (.there s) ih
theorem left {A L M : List Pm} (h : Steps n L M) : Steps n (A ++ L) (A ++ M) := by
  induction A with
  | nil => exact h
  | cons a A ih => exact ih.cons
end Steps

theorem Step.right {n : Nat} {L M B : List Pm} (h : Step n L M) : Step n (L ++ B) (M ++ B) := by
  induction h with
  | here hi hs he => exact .here hi hs he
  | there _ ih => exact .there ih
theorem Steps.right {n : Nat} {L M B : List Pm} (h : Steps n L M) : Steps n (L ++ B) (M ++ B) := by
  induction h with
  | refl => exact .refl _
  | head s _ ih => exact .head s.right ih
theorem Steps.app {n : Nat} {L L' M M' : List Pm} (h : Steps n L L') (h' : Steps n M M') : Steps n (L ++ M) (L' ++ M') := h.right.trans h'.left

theorem AllP.step {n : Nat} (hn : n ∈ ns) {L M : List Pm} (h : Step n L M) (hL : AllP n L) : AllP n M := by
  induction h with
  | here hi hs he =>
    intro x hx
    simp only [List.mem_cons] at hx
    rcases hx with rfl | rfl | hx
    · exact thn_mem hn (hL _ (by simp)) hi
    · exact swp_mem hn (hL _ (by simp)) hi
    · exact hL _ (by simp [hx])
  | there _ ih =>
    intro x hx
    simp only [List.mem_cons] at hx
    rcases hx with rfl | hx
    · exact hL _ (by simp)
    · exact ih (fun y hy => hL y (by simp [hy])) x hx
theorem AllP.steps {n : Nat} (hn : n ∈ ns) {L M : List Pm} (h : Steps n L M) (hL : AllP n L) : AllP n M := by
  induction h with
  | refl => exact hL
  | head s _ ih => exact ih (hL.step hn s)

def tot : List Pm → Nat
  | [] => 0
  | p :: L => inv p + tot L
def wt : List Pm → Nat
  | [] => 0
  | _ :: L => tot L + wt L

theorem tot_step {n : Nat} (hn : n ∈ ns) {L M : List Pm} (h : Step n L M) (hL : AllP n L) : tot M = tot L := by
  induction h with
  | here hi hs he =>
    have h1 := inv_thn hn (hL _ (by simp)) hi he
    have h2 := inv_swp hn (hL _ (by simp)) hi hs
    simp only [tot]; omega
  | there _ ih => simp only [tot]; rw [ih fun y hy => hL y (by simp [hy])]
theorem wt_step {n : Nat} (hn : n ∈ ns) {L M : List Pm} (h : Step n L M) (hL : AllP n L) : wt M < wt L := by
  induction h with
  | here hi hs he =>
    have h2 := inv_swp hn (hL _ (by simp)) hi hs
    simp only [tot, wt]; omega
  | there s ih =>
    have := tot_step hn s fun y hy => hL y (by simp [hy])
    have := ih fun y hy => hL y (by simp [hy])
    simp only [wt]; omega

/- ---- the diamond ---- -/
def Joins (n : Nat) (L M : List Pm) : Prop := ∃ N, Steps n L N ∧ Steps n M N

theorem near_comm {i j : Nat} : near i j = near j i := by simp only [near, Bool.or_comm]

theorem local_join {n : Nat} (hn : n ∈ ns) {L M N : List Pm} (h : Step n L M) (h' : Step n L N) (hL : AllP n L) : Joins n M N := by
  induction h generalizing N with
  | @here p q B i hi hs he =>
    have hp : p ∈ perms n := hL _ (by simp)
    have hq : q ∈ perms n := hL _ (by simp)
    cases h' with
    | @here _ _ _ j hj hs' he' =>
      by_cases hij : i = j
      · subst hij; exact ⟨_, .refl _, .refl _⟩
      · have a1 := ends_two hn hp hi hj hij he he'
        have a2 := ends_two hn hp hj hi (Ne.symm hij) he' he
        have b1 := starts_two hn hq hi hj hij hs hs'
        have b2 := starts_two hn hq hj hi (Ne.symm hij) hs' hs
        rw [near_comm] at a2 b2
        split at a1
        · next hne =>
          rw [if_pos hne] at a2 b1 b2
          refine ⟨_, .head (.here hj b1.1 a1.1) (.head (.here hi b1.2.1 a1.2.1) (.refl _)), ?_⟩
          rw [a1.2.2, b1.2.2]
          exact .head (.here hi b2.1 a2.1) (.head (.here hj b2.2.1 a2.2.1) (.refl _))
        · next hne =>
          rw [if_neg hne] at a2 b1 b2
          refine ⟨_, .head (.here hj b1.1 a1.1) (.refl _), ?_⟩
          rw [a1.2, b1.2]
          exact .head (.here hi b2.1 a2.1) (.refl _)
    | there t =>
      cases t with
      | @here _ r C j hj hs' he' =>
        have b := both_sides hn hq hi hj hs he'
        refine ⟨_, .head (.there (.here hj hs' b.2.1)) (.refl _), ?_⟩
        rw [← b.2.2]
        exact .head (.here hi b.1 he) (.refl _)
      | there t => exact ⟨_, .one (.there (.there t)), .one (.here hi hs he)⟩
  | @there p L L' s ih =>
    cases h' with
    | @here _ q B i hi hs he =>
      have hq : q ∈ perms n := hL _ (by simp)
      cases s with
      | @here _ r C j hj hs' he' =>
        have b := both_sides hn hq hi hj hs he'
        refine ⟨_, ?_, .head (.there (.here hj hs' b.2.1)) (.refl _)⟩
        rw [← b.2.2]
        exact .head (.here hi b.1 he) (.refl _)
      | there t => exact ⟨_, .one (.here hi hs he), .one (.there (.there t))⟩
    | there t =>
      obtain ⟨X, h1, h2⟩ := ih t fun y hy => hL y (by simp [hy])
      exact ⟨_, h1.cons, h2.cons⟩

def Irr (n : Nat) (L : List Pm) : Prop := ∀ M, ¬ Step n L M

theorem irr_steps {n : Nat} {L M : List Pm} (h : Irr n L) (t : Steps n L M) : M = L := by
  cases t with
  | refl => rfl
  | head s _ => exact absurd s (h _)

theorem confluent {n : Nat} (hn : n ∈ ns) : ∀ (k : Nat) (L : List Pm), wt L < k → AllP n L → ∀ M N, Steps n L M → Steps n L N → Joins n M N := by
  intro k
  induction k with
  | zero => intro L h; omega
  | succ k ih =>
    intro L hk hL M N h1 h2
    cases h1 with
    | refl => exact ⟨N, h2, .refl _⟩
    | @head _ M1 _ s1 t1 =>
      cases h2 with
      | refl => exact ⟨M, .refl _, .head s1 t1⟩
      | @head _ N1 _ s2 t2 =>
        have w1 := wt_step hn s1 hL
        have w2 := wt_step hn s2 hL
        obtain ⟨X, x1, x2⟩ := local_join hn s1 s2 hL
        obtain ⟨Y, y1, y2⟩ := ih M1 (by omega) (hL.step hn s1) _ _ t1 x1
        obtain ⟨Z, z1, z2⟩ := ih N1 (by omega) (hL.step hn s2) _ _ (x2.trans y2) t2
        exact ⟨Z, y1.trans z1, z2⟩

theorem irr_unique {n : Nat} (hn : n ∈ ns) {L M N : List Pm} (hL : AllP n L) (h1 : Steps n L M) (h2 : Steps n L N) (i1 : Irr n M) (i2 : Irr n N) : M = N := by
  obtain ⟨X, x1, x2⟩ := confluent hn _ L (Nat.lt_succ_self _) hL M N h1 h2
  rw [← irr_steps i1 x1, irr_steps i2 x2]

theorem irr_exists {n : Nat} (hn : n ∈ ns) : ∀ (k : Nat) (L : List Pm), wt L < k → AllP n L → ∃ N, Steps n L N ∧ Irr n N := by
  intro k
  induction k with
  | zero => intro L h; omega
  | succ k ih =>
    intro L hk hL
    by_cases h : Irr n L
    · exact ⟨L, .refl _, h⟩
    · simp only [Irr, Classical.not_forall, Classical.not_not] at h
      obtain ⟨M, hM⟩ := h
      have := wt_step hn hM hL
      obtain ⟨N, h1, h2⟩ := ih M (by omega) (hL.step hn hM)
      exact ⟨N, .head hM h1, h2⟩

end Bd
