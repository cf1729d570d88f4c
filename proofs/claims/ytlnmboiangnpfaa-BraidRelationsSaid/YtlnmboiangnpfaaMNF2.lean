/- Plain mathematics: normal forms of lists of permutations are told by an equivalence, and words of a braid by states. -/
import Derived.Test.YtlnmboiangnpfaaMNF
namespace Bd

/- ---- an executable normaliser, for closed checks ---- -/
def firstI (n : Nat) (p q : Pm) : Option Nat := (lets n).find? fun i => starts q i && !ends p i
def norm1 (n : Nat) : List Pm → Option (List Pm)
  | [] => none
  | [_] => none
  | p :: q :: B => match firstI n p q with
    | some i => some (thn p i :: swp q i :: B)
    | none => (norm1 n (q :: B)).map (p :: ·)
def norm (n : Nat) : Nat → List Pm → List Pm
  | 0, L => L
  | k + 1, L => match norm1 n L with
    | none => L
    | some M => norm n k M

theorem norm1_step {n : Nat} : ∀ {L M : List Pm}, norm1 n L = some M → Step n L M
  | [], _, h => by cases h
  | [_], _, h => by cases h
  | p :: q :: B, M, h => by
    unfold norm1 at h
    split at h
    · next i hi =>
      have h1 := List.find?_some hi
      have h2 := List.mem_of_find?_eq_some hi
      simp only [Bool.and_eq_true, Bool.not_eq_true'] at h1
      cases h
      exact .here h2 h1.1 h1.2
    · cases h3 : norm1 n (q :: B) with
      | none => rw [h3] at h; cases h
      | some M' => rw [h3] at h; cases h; exact .there (norm1_step h3)
theorem norm_steps {n : Nat} : ∀ (k : Nat) (L : List Pm), Steps n L (norm n k L)
  | 0, L => .refl L
  | k + 1, L => by
    unfold norm
    split
    · exact .refl L
    · next M h => exact .head (norm1_step h) (norm_steps k M)

def chk8 (n : Nat) : Bool := (lets n).all fun i => (lets n).all fun j =>
  if near i j then norm n 20 [gen n i, gen n j, gen n i] == norm n 20 [gen n j, gen n i, gen n j]
  else norm n 20 [gen n i, gen n j] == norm n 20 [gen n j, gen n i]
def chk9 (n : Nat) : Bool := (lets n).all fun i =>
  norm n 30 [flp n (gen n i), thn (delta n) i] == [delta n, idn n] && norm n 30 [thn (delta n) i, gen n i] == [delta n, idn n]
def chk10 (n : Nat) : Bool := (perms n).all fun q => norm n 30 [q, delta n] == [delta n, flp n q] && norm n 30 [idn n, q] == [q, idn n]
theorem chk8_ok : ns.all chk8 = true := by decide +kernel
theorem chk9_ok : ns.all chk9 = true := by decide +kernel
theorem chk10_ok : ns.all chk10 = true := by decide +kernel

section
variable {n : Nat} (hn : n ∈ ns)
include hn
theorem steps_delta {q : Pm} (hq : q ∈ perms n) : Steps n [q, delta n] [delta n, flp n q] := by
  have h := List.all_eq_true.1 (List.all_eq_true.1 chk10_ok n hn) q hq
  simp only [Bool.and_eq_true, beq_iff_eq] at h
  rw [← h.1]; exact norm_steps _ _
theorem steps_idn {q : Pm} (hq : q ∈ perms n) : Steps n [idn n, q] [q, idn n] := by
  have h := List.all_eq_true.1 (List.all_eq_true.1 chk10_ok n hn) q hq
  simp only [Bool.and_eq_true, beq_iff_eq] at h
  rw [← h.2]; exact norm_steps _ _
theorem steps_inv1 {i : Nat} (hi : i ∈ lets n) : Steps n [flp n (gen n i), thn (delta n) i] [delta n, idn n] := by
  have h := List.all_eq_true.1 (List.all_eq_true.1 chk9_ok n hn) i hi
  simp only [Bool.and_eq_true, beq_iff_eq] at h
  rw [← h.1]; exact norm_steps _ _
theorem steps_inv2 {i : Nat} (hi : i ∈ lets n) : Steps n [thn (delta n) i, gen n i] [delta n, idn n] := by
  have h := List.all_eq_true.1 (List.all_eq_true.1 chk9_ok n hn) i hi
  simp only [Bool.and_eq_true, beq_iff_eq] at h
  rw [← h.2]; exact norm_steps _ _
theorem steps_near {i j : Nat} (hi : i ∈ lets n) (hj : j ∈ lets n) (h0 : near i j = true) : Joins n [gen n i, gen n j, gen n i] [gen n j, gen n i, gen n j] := by
  have h := List.all_eq_true.1 (List.all_eq_true.1 (List.all_eq_true.1 chk8_ok n hn) i hi) j hj
  rw [if_pos h0, beq_iff_eq] at h
  exact ⟨_, norm_steps 20 _, by rw [h]; exact norm_steps 20 _⟩
theorem steps_far {i j : Nat} (hi : i ∈ lets n) (hj : j ∈ lets n) (h0 : near i j = false) : Joins n [gen n i, gen n j] [gen n j, gen n i] := by
  have h := List.all_eq_true.1 (List.all_eq_true.1 (List.all_eq_true.1 chk8_ok n hn) i hi) j hj
  rw [if_neg (by simp [h0]), beq_iff_eq] at h
  exact ⟨_, norm_steps 20 _, by rw [h]; exact norm_steps 20 _⟩

theorem steps_deltas : ∀ {L : List Pm}, AllP n L → Steps n (L ++ [delta n]) (delta n :: L.map (flp n))
  | [], _ => .refl _
  | q :: L, h => by
    have h1 := (steps_deltas (L := L) fun y hy => h y (by simp [hy])).cons (p := q)
    have h2 := (steps_delta hn (h q (by simp))).right (B := L.map (flp n))
    exact h1.trans h2
theorem steps_idns : ∀ {L : List Pm}, AllP n L → Steps n (idn n :: L) (L ++ [idn n])
  | [], _ => .refl _
  | q :: L, h => by
    have h1 := (steps_idn hn (h q (by simp))).right (B := L)
    have h2 := (steps_idns (L := L) fun y hy => h y (by simp [hy])).cons (p := q)
    exact h1.trans h2
end

/- ---- left-weighted lists ---- -/
def LW (n : Nat) : List Pm → Prop
  | [] => True
  | [_] => True
  | p :: q :: B => (∀ i ∈ lets n, starts q i = true → ends p i = true) ∧ LW n (q :: B)

theorem irr_of_lw {n : Nat} : ∀ {L : List Pm}, LW n L → Irr n L
  | [], _, M, h => by cases h
  | [_], _, M, h => by cases h with | there t => cases t
  | p :: q :: B, hl, M, h => by
    cases h with
    | here hi hs he => rw [hl.1 _ hi hs] at he; cases he
    | there t => exact irr_of_lw hl.2 _ t
theorem lw_of_irr {n : Nat} : ∀ {L : List Pm}, Irr n L → LW n L
  | [], _ => trivial
  | [_], _ => trivial
  | p :: q :: B, h => by
    refine ⟨fun i hi hs => ?_, lw_of_irr fun M t => h _ (.there t)⟩
    cases he : ends p i with
    | true => rfl
    | false => exact absurd (.here hi hs he) (h _)

theorem lw_delta {n : Nat} (hn : n ∈ ns) {L : List Pm} (h : LW n L) : LW n (delta n :: L) := by
  cases L with
  | nil => trivial
  | cons q B => exact ⟨fun i hi _ => ends_delta hn hi, h⟩
theorem lw_idn {n : Nat} (hn : n ∈ ns) : ∀ {L : List Pm}, LW n L → LW n (L ++ [idn n])
  | [], _ => trivial
  | [p], _ => ⟨fun i hi hs => (by rw [starts_idn hn hi] at hs; cases hs), trivial⟩
  | p :: q :: B, h => ⟨h.1, lw_idn hn h.2⟩

/- ---- the normal form of a state ---- -/
def strip (n : Nat) (k : Int) (L : List Pm) : Int × List Pm :=
  let M := L.filter (· != idn n)
  (k + (M.takeWhile (· == delta n)).length, M.dropWhile (· == delta n))

/- a state: a power of Delta, and permutations behind it -/
abbrev St := Int × List Pm

def IsNf (n : Nat) (s : St) (t : St) : Prop := ∃ N, Steps n s.2 N ∧ Irr n N ∧ t = strip n s.1 N

theorem isNf_exists {n : Nat} (hn : n ∈ ns) (s : St) (h : AllP n s.2) : ∃ t, IsNf n s t := by
  obtain ⟨N, h1, h2⟩ := irr_exists hn _ s.2 (Nat.lt_succ_self _) h
  exact ⟨_, N, h1, h2, rfl⟩
theorem isNf_unique {n : Nat} (hn : n ∈ ns) {s t t' : St} (h : AllP n s.2) (h1 : IsNf n s t) (h2 : IsNf n s t') : t = t' := by
  obtain ⟨N, a1, a2, rfl⟩ := h1
  obtain ⟨N', b1, b2, rfl⟩ := h2
  rw [irr_unique hn h a1 b1 a2 b2]

/- what makes two states one -/
inductive Eqv (n : Nat) : St → St → Prop
  | step {k : Int} {L M : List Pm} (hL : AllP n L) (h : Steps n L M) : Eqv n (k, L) (k, M)
  | one {k : Int} {A B : List Pm} (hA : AllP n A) (hB : AllP n B) : Eqv n (k, A ++ idn n :: B) (k, A ++ B)
  | del {k : Int} {L : List Pm} (hL : AllP n L) : Eqv n (k, delta n :: L) (k + 1, L)
  | symm {s t : St} (h : Eqv n s t) : Eqv n t s
  | trans {s t u : St} (h : Eqv n s t) (h' : Eqv n t u) : Eqv n s u

theorem allP_app {n : Nat} {A B : List Pm} : AllP n (A ++ B) ↔ AllP n A ∧ AllP n B := by
  constructor
  · exact fun h => ⟨fun x hx => h x (by simp [hx]), fun x hx => h x (by simp [hx])⟩
  · rintro ⟨h1, h2⟩ x hx
    rcases List.mem_append.1 hx with h | h
    · exact h1 x h
    · exact h2 x h
theorem allP_cons {n : Nat} {p : Pm} {B : List Pm} : AllP n (p :: B) ↔ p ∈ perms n ∧ AllP n B := by
  simp [AllP]

theorem Eqv.allP {n : Nat} (hn : n ∈ ns) {s t : St} (h : Eqv n s t) : AllP n s.2 ∧ AllP n t.2 := by
  induction h with
  | step hL h => exact ⟨hL, hL.steps hn h⟩
  | one hA hB => exact ⟨allP_app.2 ⟨hA, allP_cons.2 ⟨idn_mem hn, hB⟩⟩, allP_app.2 ⟨hA, hB⟩⟩
  | del hL => exact ⟨allP_cons.2 ⟨delta_mem hn, hL⟩, hL⟩
  | symm _ ih => exact ih.symm
  | trans _ _ ih1 ih2 => exact ⟨ih1.1, ih2.2⟩

theorem strip_idn {n : Nat} {k : Int} {N : List Pm} : strip n k (N ++ [idn n]) = strip n k N := by
  simp [strip, List.filter_append]
theorem strip_delta {n : Nat} (hn : n ∈ ns) {k : Int} {N : List Pm} : strip n k (delta n :: N) = strip n (k + 1) N := by
  have h := delta_ne hn
  simp only [strip, List.filter_cons, bne_iff_ne, ne_eq, h, not_false_eq_true, if_true, List.takeWhile_cons, beq_self_eq_true, List.dropWhile_cons, List.length_cons, Prod.mk.injEq, and_true]
  omega

theorem Eqv.nf {n : Nat} (hn : n ∈ ns) {s t : St} (h : Eqv n s t) : ∀ u, IsNf n s u ↔ IsNf n t u := by
  induction h with
  | @step k L M hL h =>
    intro u
    constructor
    · rintro ⟨N, a1, a2, rfl⟩
      obtain ⟨X, b1, b2⟩ := irr_exists hn _ M (Nat.lt_succ_self _) (hL.steps hn h)
      have := irr_unique hn hL a1 (h.trans b1) a2 b2
      subst this
      exact ⟨N, b1, a2, rfl⟩
    · rintro ⟨N, a1, a2, rfl⟩
      exact ⟨N, h.trans a1, a2, rfl⟩
  | @one k A B hA hB =>
    intro u
    have hAB : AllP n (A ++ B) := allP_app.2 ⟨hA, hB⟩
    have hall : AllP n (A ++ idn n :: B) := allP_app.2 ⟨hA, allP_cons.2 ⟨idn_mem hn, hB⟩⟩
    have hs : Steps n (A ++ idn n :: B) ((A ++ B) ++ [idn n]) := by
      have := (steps_idns hn hB).left (A := A)
      rwa [← List.append_assoc] at this
    obtain ⟨N, b1, b2⟩ := irr_exists hn _ (A ++ B) (Nat.lt_succ_self _) hAB
    have hN : Irr n (N ++ [idn n]) := irr_of_lw (lw_idn hn (lw_of_irr b2))
    constructor
    · rintro ⟨N', a1, a2, rfl⟩
      have := irr_unique hn hall a1 (hs.trans b1.right) a2 hN
      subst this
      exact ⟨N, b1, b2, strip_idn⟩
    · rintro ⟨N', a1, a2, rfl⟩
      have := irr_unique hn hAB a1 b1 a2 b2
      subst this
      exact ⟨_, hs.trans b1.right, hN, strip_idn.symm⟩
  | @del k L hL =>
    intro u
    have hall : AllP n (delta n :: L) := allP_cons.2 ⟨delta_mem hn, hL⟩
    obtain ⟨N, b1, b2⟩ := irr_exists hn _ L (Nat.lt_succ_self _) hL
    have hN : Irr n (delta n :: N) := irr_of_lw (lw_delta hn (lw_of_irr b2))
    constructor
    · rintro ⟨N', a1, a2, rfl⟩
      have := irr_unique hn hall a1 b1.cons a2 hN
      subst this
      exact ⟨N, b1, b2, strip_delta hn⟩
    · rintro ⟨N', a1, a2, rfl⟩
      have := irr_unique hn hL a1 b1 a2 b2
      subst this
      exact ⟨_, b1.cons, hN, (strip_delta hn).symm⟩
  | symm _ ih => exact fun u => (ih u).symm
  | trans _ _ ih1 ih2 => exact fun u => (ih1 u).trans (ih2 u)

theorem Eqv.refl {n : Nat} (s : St) (h : AllP n s.2) : Eqv n s s := .step (k := s.1) h (.refl _)

/- a state is one with its normal form -/
theorem eqv_filter {n : Nat} (hn : n ∈ ns) (k : Int) : ∀ (A B : List Pm), AllP n A → AllP n B → Eqv n (k, A ++ B) (k, A ++ B.filter (· != idn n))
  | A, [], hA, _ => Eqv.refl _ (by simpa using hA)
  | A, q :: B, hA, hB => by
    have hq := (allP_cons.1 hB).1
    have hB' := (allP_cons.1 hB).2
    by_cases h : q = idn n
    · subst h
      have e : (idn n :: B).filter (· != idn n) = B.filter (· != idn n) := by simp
      rw [e]
      exact .trans (.one hA hB') (eqv_filter hn k A B hA hB')
    · have e : (q :: B).filter (· != idn n) = q :: B.filter (· != idn n) := by simp [h]
      rw [e]
      have := eqv_filter hn k (A ++ [q]) B (allP_app.2 ⟨hA, allP_cons.2 ⟨hq, fun _ hx => by cases hx⟩⟩) hB'
      simpa using this
theorem eqv_drop {n : Nat} (hn : n ∈ ns) : ∀ (k : Int) (M : List Pm), AllP n M → Eqv n (k, M) (k + (M.takeWhile (· == delta n)).length, M.dropWhile (· == delta n))
  | k, [], _ => by simpa using Eqv.refl (k, []) fun _ hx => by cases hx
  | k, q :: M, h => by
    have hM := (allP_cons.1 h).2
    by_cases e : q = delta n
    · subst e
      have := eqv_drop hn (k + 1) M hM
      simp only [List.takeWhile_cons, beq_self_eq_true, if_true, List.dropWhile_cons, List.length_cons]
      have e : k + ((M.takeWhile (· == delta n)).length + 1 : Nat) = k + 1 + ((M.takeWhile (· == delta n)).length : Int) := by omega
      rw [e]
      exact .trans (.del hM) this
    · have e' : (q == delta n) = false := by simpa using e
      simp only [List.takeWhile_cons, e', List.dropWhile_cons, List.length_nil, Bool.false_eq_true, if_false]
      simpa using Eqv.refl (k, q :: M) h
theorem eqv_nf {n : Nat} (hn : n ∈ ns) {s t : St} (hs : AllP n s.2) (h : IsNf n s t) : Eqv n s t := by
  obtain ⟨N, a1, a2, rfl⟩ := h
  have hN := hs.steps hn a1
  refine .trans (.step (k := s.1) hs a1) (.trans (eqv_filter hn s.1 [] N (fun _ hx => by cases hx) hN) ?_)
  exact eqv_drop hn s.1 _ fun x hx => hN x (by simp only [List.nil_append, List.mem_filter] at hx; exact hx.1)

/- ---- what may be done to both ---- -/
theorem Eqv.app {n : Nat} {s t : St} {p : Pm} (hp : p ∈ perms n) (h : Eqv n s t) : Eqv n (s.1, s.2 ++ [p]) (t.1, t.2 ++ [p]) := by
  have hB : AllP n [p] := allP_cons.2 ⟨hp, fun _ hx => by cases hx⟩
  induction h with
  | step hL h => exact .step (allP_app.2 ⟨hL, hB⟩) h.right
  | @one k _ _ hA hB' =>
    have := Eqv.one (n := n) (k := k) hA (allP_app.2 ⟨hB', hB⟩)
    simpa using this
  | del hL => exact .del (allP_app.2 ⟨hL, hB⟩)
  | symm _ ih => exact ih.symm
  | trans _ _ ih1 ih2 => exact ih1.trans ih2

theorem Step.flip {n : Nat} (hn : n ∈ ns) {L M : List Pm} (h : Step n L M) (hL : AllP n L) : Step n (L.map (flp n)) (M.map (flp n)) := by
  induction h with
  | @here p q B i hi hs he =>
    have a := flp_all hn (hL p (by simp)) hi
    have b := flp_all hn (hL q (by simp)) hi
    simp only [List.map_cons]
    rw [a.1, b.2.1]
    exact .here (flp_let hi) (b.2.2.1.trans hs) (a.2.2.2.trans he)
  | there _ ih => exact .there (ih fun y hy => hL y (by simp [hy]))
theorem Steps.flip {n : Nat} (hn : n ∈ ns) {L M : List Pm} (h : Steps n L M) (hL : AllP n L) : Steps n (L.map (flp n)) (M.map (flp n)) := by
  induction h with
  | refl => exact .refl _
  | head s _ ih => exact .head (s.flip hn hL) (ih (hL.step hn s))
theorem AllP.flip {n : Nat} (hn : n ∈ ns) {L : List Pm} (hL : AllP n L) : AllP n (L.map (flp n)) := by
  intro x hx
  obtain ⟨y, hy, rfl⟩ := List.mem_map.1 hx
  exact flp_mem hn (hL y hy)
theorem Eqv.flip {n : Nat} (hn : n ∈ ns) {s t : St} (h : Eqv n s t) (d : Int) : Eqv n (s.1 + d, s.2.map (flp n)) (t.1 + d, t.2.map (flp n)) := by
  induction h with
  | step hL h => exact .step (hL.flip hn) (h.flip hn hL)
  | @one k _ _ hA hB =>
    have := Eqv.one (n := n) (k := k + d) (hA.flip hn) (hB.flip hn)
    simpa [flp_idn hn] using this
  | @del k L hL =>
    have := Eqv.del (n := n) (k := k + d) (hL.flip hn)
    simp only [List.map_cons, flp_delta hn]
    rwa [show k + 1 + d = k + d + 1 from by omega]
  | symm _ ih => exact ih.symm
  | trans _ _ ih1 ih2 => exact ih1.trans ih2

/- ---- words ---- -/
def letter (n : Nat) (s : St) (a : Int) : St :=
  if 0 < a then (s.1, s.2 ++ [gen n a.toNat]) else (s.1 - 1, s.2.map (flp n) ++ [thn (delta n) (-a).toNat])
def run (n : Nat) (s : St) (w : List Int) : St := w.foldl (letter n) s
def start : St := (0, [])

/- a letter of so many strands -/
def Let (n : Nat) (a : Int) : Prop := (0 < a ∧ a < n) ∨ (a < 0 ∧ -(n : Int) < a)
def Word (n : Nat) (w : List Int) : Prop := ∀ a ∈ w, Let n a

theorem let_pos {n : Nat} {a : Int} (h : Let n a) (h0 : 0 < a) : a.toNat ∈ lets n := by
  rw [mem_lets]; rcases h with h | h <;> omega
theorem let_neg {n : Nat} {a : Int} (h : Let n a) (h0 : ¬ 0 < a) : (-a).toNat ∈ lets n := by
  rw [mem_lets]; rcases h with h | h <;> omega

theorem gen_mem {n : Nat} (hn : n ∈ ns) {i : Nat} (hi : i ∈ lets n) : gen n i ∈ perms n := thn_mem hn (idn_mem hn) hi

theorem allP_one {n : Nat} {p : Pm} (h : p ∈ perms n) : AllP n [p] := allP_cons.2 ⟨h, fun _ hx => by cases hx⟩

theorem letter_allP {n : Nat} (hn : n ∈ ns) {s : St} {a : Int} (ha : Let n a) (h : AllP n s.2) : AllP n (letter n s a).2 := by
  unfold letter
  split
  · next h0 => exact allP_app.2 ⟨h, allP_one (gen_mem hn (let_pos ha h0))⟩
  · next h0 => exact allP_app.2 ⟨h.flip hn, allP_one (thn_mem hn (delta_mem hn) (let_neg ha h0))⟩
theorem run_allP {n : Nat} (hn : n ∈ ns) : ∀ {w : List Int} {s : St}, Word n w → AllP n s.2 → AllP n (run n s w).2
  | [], _, _, h => h
  | a :: w, s, hw, h => run_allP hn (w := w) (fun x hx => hw x (by simp [hx])) (letter_allP hn (hw a (by simp)) h)

theorem Eqv.letter {n : Nat} (hn : n ∈ ns) {s t : St} {a : Int} (ha : Let n a) (h : Eqv n s t) : Eqv n (letter n s a) (letter n t a) := by
  unfold Bd.letter
  split
  · next h0 => exact h.app (gen_mem hn (let_pos ha h0))
  · next h0 => exact (h.flip hn (-1)).app (thn_mem hn (delta_mem hn) (let_neg ha h0))
theorem Eqv.run {n : Nat} (hn : n ∈ ns) : ∀ {w : List Int} {s t : St}, Word n w → Eqv n s t → Eqv n (run n s w) (run n t w)
  | [], _, _, _, h => h
  | a :: w, _, _, hw, h => Eqv.run hn (w := w) (fun x hx => hw x (by simp [hx])) (h.letter hn (hw a (by simp)))

/- the relations of a braid -/
inductive Rel (n : Nat) : List Int → List Int → Prop
  | cancel {a : Int} (ha : Let n a) : Rel n [a, -a] []
  | near {i j : Nat} (hi : i ∈ lets n) (hj : j ∈ lets n) (h : near i j = true) : Rel n [(i : Int), j, i] [(j : Int), i, j]
  | far {i j : Nat} (hi : i ∈ lets n) (hj : j ∈ lets n) (h : Bd.near i j = false) : Rel n [(i : Int), j] [(j : Int), i]
  | app {u v x y : List Int} (hx : Word n x) (hy : Word n y) (h : Rel n u v) : Rel n (x ++ u ++ y) (x ++ v ++ y)
  | refl (u : List Int) (hu : Word n u) : Rel n u u
  | symm {u v : List Int} (h : Rel n u v) : Rel n v u
  | trans {u v w : List Int} (h : Rel n u v) (h' : Rel n v w) : Rel n u w

theorem word_app {n : Nat} {u v : List Int} : Word n (u ++ v) ↔ Word n u ∧ Word n v := by
  constructor
  · exact fun h => ⟨fun x hx => h x (by simp [hx]), fun x hx => h x (by simp [hx])⟩
  · rintro ⟨h1, h2⟩ x hx
    rcases List.mem_append.1 hx with h | h
    · exact h1 x h
    · exact h2 x h
theorem let_nat {n i : Nat} (hi : i ∈ lets n) : Let n i := by
  rw [mem_lets] at hi; left; omega
theorem Let.neg {n : Nat} {a : Int} (h : Let n a) : Let n (-a) := by
  rcases h with h | h
  · right; omega
  · left; omega
theorem word_nil {n : Nat} : Word n [] := fun _ h => by cases h
theorem word_cons {n : Nat} {a : Int} {w : List Int} : Word n (a :: w) ↔ Let n a ∧ Word n w := by simp [Word]

theorem Rel.word {n : Nat} {u v : List Int} (h : Rel n u v) : Word n u ∧ Word n v := by
  induction h with
  | cancel ha => exact ⟨word_cons.2 ⟨ha, word_cons.2 ⟨ha.neg, word_nil⟩⟩, word_nil⟩
  | near hi hj h => simp [word_cons, let_nat hi, let_nat hj, word_nil]
  | far hi hj h => simp [word_cons, let_nat hi, let_nat hj, word_nil]
  | app hx hy _ ih => exact ⟨word_app.2 ⟨word_app.2 ⟨hx, ih.1⟩, hy⟩, word_app.2 ⟨word_app.2 ⟨hx, ih.2⟩, hy⟩⟩
  | refl u hu => exact ⟨hu, hu⟩
  | symm _ ih => exact ih.symm
  | trans _ _ ih1 ih2 => exact ⟨ih1.1, ih2.2⟩

theorem run_app {n : Nat} {s : St} {u v : List Int} : run n s (u ++ v) = run n (run n s u) v := List.foldl_append

theorem eqv_fold_delta {n : Nat} (hn : n ∈ ns) {k : Int} {L : List Pm} (hL : AllP n L) {p q : Pm} (hp : p ∈ perms n) (hq : q ∈ perms n) (h : Steps n [p, q] [delta n, idn n]) :
    Eqv n (k - 1, L.map (flp n) ++ [p, q]) (k, L) := by
  have hF := hL.flip hn
  have hff : (L.map (flp n)).map (flp n) = L := by
    rw [List.map_map]
    exact (List.map_congr_left fun x hx => flp_flp hn (hL x hx)).trans (List.map_id _)
  refine .trans (.step (allP_app.2 ⟨hF, allP_cons.2 ⟨hp, allP_one hq⟩⟩) h.left) ?_
  have e1 : Eqv n (k - 1, L.map (flp n) ++ [delta n, idn n]) (k - 1, L.map (flp n) ++ [delta n]) := by
    have := Eqv.one (n := n) (k := k - 1) (A := L.map (flp n) ++ [delta n]) (B := []) (allP_app.2 ⟨hF, allP_one (delta_mem hn)⟩) fun _ hx => by cases hx
    simpa using this
  refine .trans e1 ?_
  have e2 : Eqv n (k - 1, L.map (flp n) ++ [delta n]) (k - 1, delta n :: L) := by
    have := Eqv.step (n := n) (k := k - 1) (allP_app.2 ⟨hF, allP_one (delta_mem hn)⟩) (steps_deltas hn hF)
    rwa [hff] at this
  refine .trans e2 ?_
  have := Eqv.del (n := n) (k := k - 1) hL
  rwa [show k - 1 + 1 = k from by omega] at this

theorem Eqv.joins {n : Nat} {k : Int} {A L M : List Pm} (hA : AllP n A) (hL : AllP n L) (hM : AllP n M) (h : Joins n L M) : Eqv n (k, A ++ L) (k, A ++ M) := by
  obtain ⟨N, h1, h2⟩ := h
  exact .trans (.step (allP_app.2 ⟨hA, hL⟩) h1.left) (.symm (.step (allP_app.2 ⟨hA, hM⟩) h2.left))

theorem letter_nat {n : Nat} {s : St} {i : Nat} (hi : i ∈ lets n) : letter n s (i : Int) = (s.1, s.2 ++ [gen n i]) := by
  rw [mem_lets] at hi
  unfold letter
  rw [if_pos (by omega)]; rfl

theorem Rel.eqv {n : Nat} (hn : n ∈ ns) {u v : List Int} (h : Rel n u v) : ∀ s : St, AllP n s.2 → Eqv n (run n s u) (run n s v) := by
  induction h with
  | @cancel a ha =>
    intro s hs
    obtain ⟨k, L⟩ := s
    simp only [run, List.foldl_cons, List.foldl_nil]
    by_cases h0 : 0 < a
    · have hi := let_pos ha h0
      have e : letter n (letter n (k, L) a) (-a) = (k - 1, L.map (flp n) ++ [flp n (gen n a.toNat), thn (delta n) a.toNat]) := by
        simp only [letter, if_pos h0]
        rw [if_neg (by omega)]
        simp
      rw [e]
      exact eqv_fold_delta hn hs (flp_mem hn (gen_mem hn hi)) (thn_mem hn (delta_mem hn) hi) (steps_inv1 hn hi)
    · have hi := let_neg ha h0
      have e : letter n (letter n (k, L) a) (-a) = (k - 1, L.map (flp n) ++ [thn (delta n) (-a).toNat, gen n (-a).toNat]) := by
        simp only [letter, if_neg h0]
        rw [if_pos (by rcases ha with h | h <;> omega)]
        simp
      rw [e]
      exact eqv_fold_delta hn hs (thn_mem hn (delta_mem hn) hi) (gen_mem hn hi) (steps_inv2 hn hi)
  | @near i j hi hj h =>
    intro s hs
    simp only [run, List.foldl_cons, List.foldl_nil]
    rw [letter_nat hi, letter_nat hj, letter_nat hi, letter_nat hj, letter_nat hi, letter_nat hj]
    have gi := gen_mem hn hi
    have gj := gen_mem hn hj
    have := Eqv.joins (k := s.1) hs (allP_cons.2 ⟨gi, allP_cons.2 ⟨gj, allP_one gi⟩⟩) (allP_cons.2 ⟨gj, allP_cons.2 ⟨gi, allP_one gj⟩⟩) (steps_near hn hi hj h)
    simpa using this
  | @far i j hi hj h =>
    intro s hs
    simp only [run, List.foldl_cons, List.foldl_nil]
    rw [letter_nat hi, letter_nat hj, letter_nat hj, letter_nat hi]
    have gi := gen_mem hn hi
    have gj := gen_mem hn hj
    have := Eqv.joins (k := s.1) hs (allP_cons.2 ⟨gi, allP_one gj⟩) (allP_cons.2 ⟨gj, allP_one gi⟩) (steps_far hn hi hj h)
    simpa using this
  | @app u v x y hx hy _ ih =>
    intro s hs
    rw [run_app, run_app, run_app, run_app]
    exact (ih _ (run_allP hn hx hs)).run hn hy
  | refl u hu => exact fun s hs => Eqv.refl _ (run_allP hn hu hs)
  | symm _ ih => exact fun s hs => (ih s hs).symm
  | trans _ _ ih1 ih2 => exact fun s hs => (ih1 s hs).trans (ih2 s hs)

/- words that are one braid have one normal form -/
theorem Rel.nf {n : Nat} (hn : n ∈ ns) {u v : List Int} (h : Rel n u v) {t : St} : IsNf n (run n start u) t ↔ IsNf n (run n start v) t :=
  (h.eqv hn start (fun _ hx => by cases hx)).nf hn t

end Bd
