/- Plain: the texts of polynomials, and what they read as. -/
import Derived.Test.YtanidlncijkmnaaDoorMPoly
import Derived.Lib.ItoaNum
import Derived.Lib.Split
import Derived.Lib.SplitLaws
import Derived.Lib.IndexBytes
import Derived.Lib.Strings
import Derived.Lib.Atoi
namespace Tx
open Go
abbrev B := List UInt8
def dig (n : Nat) : B := [UInt8.ofNat (48 + n)]
def num (e : Int) : B := if e < 0 then 45 :: dig e.natAbs else dig e.toNat
theorem dig_eq {n : Nat} (h : n < 10) : Lib.decDigits n = dig n := by rw [Lib.decDigits, dif_pos h]; rfl
theorem num_eq {e : Int} (h : e.natAbs < 10) : Lib.itoa e = num e := by
  unfold Lib.itoa num
  split
  · rw [dig_eq h]
  · rw [dig_eq (by omega)]
def pow (e : Int) : B := if e = 1 then [116] else [116, 94] ++ num e
def body (e : Int) (n : Nat) : B := if e = 0 then dig n else if n = 1 then pow e else dig n ++ [42] ++ pow e
def lead (i : Nat) (c : Int) : B := if i = 0 then (if c < 0 then [45] else []) else if c < 0 then [32, 45, 32] else [32, 43, 32]
def txt : Nat → List Pl.T → B
  | _, [] => []
  | i, t :: l => lead i t.2 ++ body t.1 t.2.natAbs ++ txt (i + 1) l
theorem txt_app (i : Nat) (l m : List Pl.T) : txt i (l ++ m) = txt i l ++ txt (i + l.length) m := by
  induction l generalizing i with
  | nil => simp [txt]
  | cons t l ih =>
    simp only [List.cons_append, txt, ih, List.append_assoc, List.length_cons]
    rw [show i + 1 + l.length = i + (l.length + 1) by omega]
theorem txt_snoc (l : List Pl.T) (t : Pl.T) : txt 0 (l ++ [t]) = txt 0 l ++ (lead l.length t.2 ++ body t.1 t.2.natAbs) := by
  rw [txt_app]; simp [txt]
theorem txt_take {l : List Pl.T} {k : Nat} (h : k < l.length) : txt 0 (l.take (k + 1)) = txt 0 (l.take k) ++ (lead k (l.getD k (0, 0)).2 ++ body (l.getD k (0, 0)).1 (l.getD k (0, 0)).2.natAbs) := by
  have e : l.take (k + 1) = l.take k ++ [l.getD k (0, 0)] := by
    rw [List.take_add_one, List.getD_eq_getElem?_getD]
    simp [List.getElem?_eq_getElem h]
  rw [e, txt_snoc, List.length_take, Nat.min_eq_left (by omega)]
/- the text as a whole -/
def full (l : List Pl.T) : B := if l = [] then [48] else txt 0 l
def Sm (l : List Pl.T) : Prop := ∀ t ∈ l, (-9 ≤ t.1 ∧ t.1 ≤ 9) ∧ t.2 ≠ 0 ∧ -9 ≤ t.2 ∧ t.2 ≤ 9
theorem num_len (e : Int) : (num e).length ≤ 2 := by unfold num dig; split <;> simp
theorem pow_len (e : Int) : (pow e).length ≤ 4 := by
  have := num_len e
  unfold pow
  split <;> simp; omega
theorem body_len (e : Int) (n : Nat) : (body e n).length ≤ 6 := by
  have := pow_len e
  unfold body dig
  split
  · simp
  · split
    · omega
    · simp; omega
theorem lead_len (i : Nat) (c : Int) : (lead i c).length ≤ 3 := by unfold lead; split <;> split <;> simp
theorem txt_len (i : Nat) (l : List Pl.T) : (txt i l).length ≤ 9 * l.length := by
  induction l generalizing i with
  | nil => simp [txt]
  | cons t l ih =>
    have := ih (i + 1)
    have := lead_len i t.2
    have := body_len t.1 t.2.natAbs
    simp only [txt, List.length_append, List.length_cons]
    omega
theorem full_len (l : List Pl.T) : (full l).length ≤ 9 * l.length + 1 := by
  unfold full
  split
  · simp
  · have := txt_len 0 l; omega

/- what a term's text reads as -/
structure Reads (e : Int) (n : Nat) : Prop where
  blank : (32 : UInt8) ∉ body e n
  minus : (body e n).head? ≠ some 45
  zero : body e n ≠ [48]
def readsB (e : Int) (n : Nat) : Bool := decide ((32 : UInt8) ∉ body e n) && decide ((body e n).head? ≠ some 45) && decide (body e n ≠ [48])
theorem reads_all : ∀ e : Fin 9, ∀ n : Fin 9, readsB ((e.val : Int) - 4) (n.val + 1) = true := by decide +kernel
theorem reads {e : Int} {n : Nat} (h1 : -4 ≤ e) (h2 : e ≤ 4) (h3 : 1 ≤ n) (h4 : n ≤ 9) : Reads e n := by
  have := reads_all ⟨(e + 4).toNat, by omega⟩ ⟨n - 1, by omega⟩
  have e1 : (((e + 4).toNat : Nat) : Int) - 4 = e := by omega
  have e2 : n - 1 + 1 = n := by omega
  simp only [e1, e2, readsB, Bool.and_eq_true, decide_eq_true_eq] at this
  exact ⟨this.1.1, this.1.2, this.2⟩
/- the three roads of term -/
def roadB (e : Int) (n : Nat) : Bool :=
  (decide (e = 0) && (Lib.cut (body e n) [42] == (body e n, [], false)) && !Lib.hasPrefix (body e n) [116] && (Lib.atoi (body e n) == some (n : Int))) ||
  (!decide (e = 0) && decide (n = 1) && (Lib.cut (body e n) [42] == (body e n, [], false)) && Lib.hasPrefix (body e n) [116] && (body e n == pow e)) ||
  (!decide (e = 0) && !decide (n = 1) && (Lib.cut (body e n) [42] == (dig n, pow e, true)) && (Lib.atoi (dig n) == some (n : Int)))
theorem road_all : ∀ e : Fin 9, ∀ n : Fin 9, roadB ((e.val : Int) - 4) (n.val + 1) = true := by decide +kernel
theorem road {e : Int} {n : Nat} (h1 : -4 ≤ e) (h2 : e ≤ 4) (h3 : 1 ≤ n) (h4 : n ≤ 9) :
    (e = 0 ∧ Lib.cut (body e n) [42] = (body e n, [], false) ∧ Lib.hasPrefix (body e n) [116] = false ∧ Lib.atoi (body e n) = some (n : Int)) ∨
    (e ≠ 0 ∧ n = 1 ∧ Lib.cut (body e n) [42] = (body e n, [], false) ∧ Lib.hasPrefix (body e n) [116] = true ∧ body e n = pow e) ∨
    (e ≠ 0 ∧ n ≠ 1 ∧ Lib.cut (body e n) [42] = (dig n, pow e, true) ∧ Lib.atoi (dig n) = some (n : Int)) := by
  have := road_all ⟨(e + 4).toNat, by omega⟩ ⟨n - 1, by omega⟩
  have e1 : (((e + 4).toNat : Nat) : Int) - 4 = e := by omega
  have e2 : n - 1 + 1 = n := by omega
  simp only [e1, e2, roadB, Bool.and_eq_true, Bool.or_eq_true, decide_eq_true_eq, Bool.not_eq_true', decide_eq_false_iff_not, beq_iff_eq, and_assoc, or_assoc] at this
  exact this
def pwB (e : Int) : Bool :=
  (decide (e = 1) && (Lib.hasPrefix (pow e) [116, 94] == false)) ||
  (!decide (e = 1) && (Lib.hasPrefix (pow e) [116, 94] == true) && (Lib.trimPrefix (pow e) [116, 94] == num e) && (Lib.atoi (num e) == some e))
theorem pw_all : ∀ e : Fin 9, pwB ((e.val : Int) - 4) = true := by decide +kernel
theorem pw {e : Int} (h1 : -4 ≤ e) (h2 : e ≤ 4) :
    (e = 1 ∧ Lib.hasPrefix (pow e) [116, 94] = false) ∨ (e ≠ 1 ∧ Lib.hasPrefix (pow e) [116, 94] = true ∧ Lib.trimPrefix (pow e) [116, 94] = num e ∧ Lib.atoi (num e) = some e) := by
  have := pw_all ⟨(e + 4).toNat, by omega⟩
  have e1 : (((e + 4).toNat : Nat) : Int) - 4 = e := by omega
  simp only [e1, pwB, Bool.and_eq_true, Bool.or_eq_true, decide_eq_true_eq, Bool.not_eq_true', decide_eq_false_iff_not, beq_iff_eq, and_assoc] at this
  exact this

/- splitting at blanks -/
def joinS : List B → B
  | [] => []
  | [w] => w
  | w :: x :: ws => w ++ 32 :: joinS (x :: ws)
theorem ib_no : ∀ {w : B}, (32 : UInt8) ∉ w → Lib.indexByte w 32 = -1
  | [], _ => rfl
  | b :: w, h => by
    have h1 : b ≠ 32 := fun e => h (by simp [e])
    have h2 : (32 : UInt8) ∉ w := fun e => h (List.mem_cons_of_mem _ e)
    unfold Lib.indexByte
    rw [ib_no h2]; simp [h1]
theorem ib_at : ∀ {w : B} (r : B), (32 : UInt8) ∉ w → Lib.indexByte (w ++ 32 :: r) 32 = w.length
  | [], r, _ => by simp [Lib.indexByte]
  | b :: w, r, h => by
    have h1 : b ≠ 32 := fun e => h (by simp [e])
    have h2 : (32 : UInt8) ∉ w := fun e => h (List.mem_cons_of_mem _ e)
    simp only [List.cons_append]
    unfold Lib.indexByte
    rw [ib_at r h2]
    have : ¬ ((w.length : Int) == -1) = true := by simp
    simp [h1]
theorem split_join : ∀ (ws : List B), ws ≠ [] → (∀ w ∈ ws, (32 : UInt8) ∉ w) → Lib.count (joinS ws) [32] + 1 = ws.length ∧ Lib.splitK [32] 0 (Lib.count (joinS ws) [32]) (joinS ws) = ws
  | [], h, _ => absurd rfl h
  | [w], _, hw => by
    have h1 : Lib.index w [32] = -1 := by rw [Lib.index_one]; exact ib_no (hw w (by simp))
    have h2 : Lib.count w [32] = 0 := Lib.count_miss h1
    simp only [joinS]
    rw [h2]
    exact ⟨rfl, rfl⟩
  | w :: x :: ws, _, hw => by
    have ih := split_join (x :: ws) (by simp) (fun u hu => hw u (List.mem_cons_of_mem _ hu))
    have h1 : Lib.index (w ++ 32 :: joinS (x :: ws)) [32] = (w.length : Nat) := by rw [Lib.index_one]; exact ib_at _ (hw w (by simp))
    have hd : (w ++ 32 :: joinS (x :: ws)).drop (w.length + 1) = joinS (x :: ws) := by
      rw [← List.drop_drop, List.drop_left]; rfl
    have h2 := Lib.count_hit (sub := [32]) (by simp) h1
    simp only [List.length_cons, List.length_nil, Nat.zero_add] at h2
    rw [hd] at h2
    simp only [joinS]
    rw [h2]
    refine ⟨by rw [List.length_cons, ← ih.1]; omega, ?_⟩
    rw [Nat.add_comm 1]
    unfold Lib.splitK
    have h3 : ¬ (Lib.index (w ++ 32 :: joinS (x :: ws)) [32] == -1) = true := by rw [h1]; simp
    rw [if_neg h3, h1]
    have h4 : ((w.length : Nat) : Int).toNat = w.length := rfl
    simp only [h4, List.length_cons, List.length_nil, Nat.zero_add, Nat.add_zero]
    rw [hd, ih.2, List.take_left]

/- the words of a text -/
def sg (c : Int) : B := if c < 0 then [45] else [43]
def tailW : List Pl.T → List B
  | [] => []
  | t :: l => sg t.2 :: body t.1 t.2.natAbs :: tailW l
theorem joinS_cons2 (w x : B) (ws : List B) : joinS (w :: x :: ws) = w ++ 32 :: joinS (x :: ws) := rfl
theorem txt_tail (i : Nat) : ∀ (l : List Pl.T) (w : B), w ++ txt (i + 1) l = joinS (w :: tailW l)
  | [], w => by simp [txt, tailW, joinS]
  | t :: l, w => by
    have ih := txt_tail (i + 1) l (body t.1 t.2.natAbs)
    simp only [txt, tailW, joinS_cons2]
    rw [← ih]
    unfold lead sg
    rw [if_neg (by omega)]
    split <;> simp
theorem tailW_len (l : List Pl.T) : (tailW l).length = 2 * l.length := by
  induction l with
  | nil => rfl
  | cons t l ih => simp only [tailW, List.length_cons, ih]; omega
/- the word at an odd place is a sign, at an even one a term -/
theorem tailW_even : ∀ (l : List Pl.T) (j : Nat), j < l.length → (tailW l).getD (2 * j) [] = sg (l.getD j (0, 0)).2 ∧ (tailW l).getD (2 * j + 1) [] = body (l.getD j (0, 0)).1 (l.getD j (0, 0)).2.natAbs
  | [], j, h => by simp at h
  | t :: l, 0, _ => by simp [tailW]
  | t :: l, j + 1, h => by
    have := tailW_even l j (by simpa using h)
    have e1 : 2 * (j + 1) = 2 * j + 1 + 1 := by omega
    rw [e1]
    simp only [tailW, List.getD_cons_succ]
    exact this
def words : List Pl.T → List B
  | [] => []
  | t :: l => body t.1 t.2.natAbs :: tailW l
theorem words_len {l : List Pl.T} (h : l ≠ []) : (words l).length = 2 * l.length - 1 := by
  cases l with
  | nil => exact absurd rfl h
  | cons t l => simp only [words, List.length_cons, tailW_len]; omega
theorem words_term : ∀ {l : List Pl.T} {j : Nat}, j < l.length → (words l).getD (2 * j) [] = body (l.getD j (0, 0)).1 (l.getD j (0, 0)).2.natAbs
  | [], j, h => by simp at h
  | t :: l, 0, _ => by simp [words]
  | t :: l, j + 1, h => by
    have := (tailW_even l j (by simpa using h)).2
    have e1 : 2 * (j + 1) = 2 * j + 1 + 1 := by omega
    rw [e1]
    simp only [words, List.getD_cons_succ]
    exact this
theorem words_sign : ∀ {l : List Pl.T} {j : Nat}, j + 1 < l.length → (words l).getD (2 * j + 1) [] = sg (l.getD (j + 1) (0, 0)).2
  | [], j, h => by simp at h
  | t :: l, j, h => by
    have := (tailW_even l j (by simpa using h)).1
    simp only [words, List.getD_cons_succ]
    exact this
def Sm4 (l : List Pl.T) : Prop := ∀ t ∈ l, (-4 ≤ t.1 ∧ t.1 ≤ 4) ∧ t.2 ≠ 0 ∧ -9 ≤ t.2 ∧ t.2 ≤ 9
theorem Sm4.sm {l : List Pl.T} (h : Sm4 l) : Sm l := fun t ht => by have := h t ht; exact ⟨⟨by omega, by omega⟩, this.2⟩
theorem Sm4.reads {l : List Pl.T} (h : Sm4 l) {t : Pl.T} (ht : t ∈ l) : Reads t.1 t.2.natAbs := by
  have := h t ht
  exact Tx.reads this.1.1 this.1.2 (by omega) (by omega)
theorem tailW_blank : ∀ {l : List Pl.T}, Sm4 l → ∀ w ∈ tailW l, (32 : UInt8) ∉ w
  | [], _, w, hw => by cases hw
  | t :: l, h, w, hw => by
    simp only [tailW, List.mem_cons] at hw
    rcases hw with rfl | rfl | hw
    · unfold sg; split <;> decide
    · exact (h.reads (by simp)).blank
    · exact tailW_blank (fun u hu => h u (List.mem_cons_of_mem _ hu)) w hw
theorem words_blank {l : List Pl.T} (h : Sm4 l) : ∀ w ∈ words l, (32 : UInt8) ∉ w := by
  cases l with
  | nil => intro w hw; cases hw
  | cons t l =>
    intro w hw
    simp only [words, List.mem_cons] at hw
    rcases hw with rfl | hw
    · exact (h.reads (by simp)).blank
    · exact tailW_blank (fun u hu => h u (List.mem_cons_of_mem _ hu)) w hw
/- the text: a sign, then the words -/
theorem full_eq {l : List Pl.T} (h : l ≠ []) : full l = (if (l.getD 0 (0, 0)).2 < 0 then [45] else []) ++ joinS (words l) := by
  cases l with
  | nil => exact absurd rfl h
  | cons t l =>
    unfold full
    rw [if_neg h]
    simp only [txt, words, List.getD_cons_zero, lead, if_pos]
    rw [List.append_assoc, txt_tail]
theorem join_head {l : List Pl.T} (h : l ≠ []) (hs : Sm4 l) : (joinS (words l)).head? ≠ some 45 := by
  cases l with
  | nil => exact absurd rfl h
  | cons t l =>
    have hr := (hs.reads (t := t) (by simp))
    have := hr.minus
    simp only [words]
    rw [← txt_tail 0]
    have hne : body t.1 t.2.natAbs ≠ [] := by
      unfold body dig pow
      split
      · simp
      · split
        · split <;> simp
        · simp
    cases hb : body t.1 t.2.natAbs with
    | nil => exact absurd hb hne
    | cons b r => rw [hb] at this; simpa using this
theorem full_zero {l : List Pl.T} (h : l ≠ []) (hs : Sm4 l) : full l ≠ [48] := by
  cases l with
  | nil => exact absurd rfl h
  | cons t l =>
    have hr := (hs.reads (t := t) (by simp))
    have hne : body t.1 t.2.natAbs ≠ [] := by
      unfold body dig pow
      split
      · simp
      · split
        · split <;> simp
        · simp
    intro e
    rw [full_eq h] at e
    split at e
    · simp at e
    · simp only [words, List.nil_append] at e
      rw [← txt_tail 0] at e
      have hl := congrArg List.length e
      rw [List.length_append] at hl
      have : 0 < (body t.1 t.2.natAbs).length := List.length_pos_iff.2 hne
      have h1 : ([48] : B).length = 1 := rfl
      have h0 : (txt (0 + 1) l).length = 0 := by omega
      rw [List.eq_nil_of_length_eq_zero h0, List.append_nil] at e
      exact hr.zero e
theorem full_sign {l : List Pl.T} (h : l ≠ []) (hs : Sm4 l) : Lib.hasPrefix (full l) [45] = decide ((l.getD 0 (0, 0)).2 < 0) := by
  rw [full_eq h]
  by_cases c : (l.getD 0 (0, 0)).2 < 0
  · rw [if_pos c, decide_eq_true c]; rfl
  · have := join_head h hs
    simp only [c, if_false, List.nil_append, decide_false]
    unfold Lib.hasPrefix
    cases e : joinS (words l) with
    | nil => rfl
    | cons b r =>
      rw [e] at this
      simp at this
      simp [List.isPrefixOf, Ne.symm this]
end Tx
