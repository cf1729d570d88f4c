/- Plain mathematics: words of a free group, and what braids do to its letters. -/
import Derived.Test.YtlnmboiangnpfaaMNF2
namespace Bd

def push (a : Int) : List Int → List Int
  | [] => [a]
  | b :: t => if a + b = 0 then t else a :: b :: t
theorem push_cons {a b : Int} {t : List Int} : push a (b :: t) = if a + b = 0 then t else a :: b :: t := rfl
def red (w : List Int) : List Int := w.foldr push []
def Rd : List Int → Prop
  | [] => True
  | [_] => True
  | a :: b :: t => a + b ≠ 0 ∧ Rd (b :: t)
def rinv (w : List Int) : List Int := (w.map (- ·)).reverse

theorem Rd.tail {a : Int} {l : List Int} (h : Rd (a :: l)) : Rd l := by
  cases l with
  | nil => trivial
  | cons b t => exact h.2
theorem rd_push {a : Int} {l : List Int} (h : Rd l) : Rd (push a l) := by
  cases l with
  | nil => trivial
  | cons b t =>
    rw [push_cons]
    split
    · exact h.tail
    · next hne => exact ⟨hne, h⟩
theorem rd_foldr {X : List Int} (hX : Rd X) : ∀ w : List Int, Rd (w.foldr push X)
  | [] => hX
  | _ :: w => rd_push (rd_foldr hX w)
theorem rd_red (w : List Int) : Rd (red w) := rd_foldr (X := []) trivial w
theorem red_of_rd : ∀ {l : List Int}, Rd l → red l = l
  | [], _ => rfl
  | [_], _ => rfl
  | a :: b :: t, h => by
    show push a (red (b :: t)) = _
    rw [red_of_rd h.2]
    rw [push_cons]
    rw [if_neg h.1]
theorem push_push {a b : Int} (hab : a + b = 0) {l : List Int} (h : Rd l) : push a (push b l) = l := by
  cases l with
  | nil => simp [push, hab]
  | cons c t =>
    rw [push_cons (b := c)]
    by_cases hc : b + c = 0
    · rw [if_pos hc]
      have : a = c := by omega
      subst this
      cases t with
      | nil => rfl
      | cons d s =>
        have := h.1
        rw [push_cons, if_neg this]
    · rw [if_neg hc, push_cons, if_pos hab]
theorem foldr_push {X : List Int} (hX : Rd X) {a : Int} {l : List Int} : (push a l).foldr push X = push a (l.foldr push X) := by
  cases l with
  | nil => rfl
  | cons b t =>
    rw [push_cons]
    split
    · next h =>
      rw [List.foldr_cons]
      exact (push_push h (rd_foldr hX t)).symm
    · rw [List.foldr_cons]
theorem foldr_red {X : List Int} (hX : Rd X) : ∀ u : List Int, (red u).foldr push X = u.foldr push X
  | [] => rfl
  | a :: u => by
    show (push a (red u)).foldr push X = push a (u.foldr push X)
    rw [foldr_push hX, foldr_red hX u]
theorem red_app {u v : List Int} : red (u ++ v) = u.foldr push (red v) := by simp [red]
theorem red_red (u : List Int) : red (red u) = red u := red_of_rd (rd_red u)

/- the same element -/
def E (u v : List Int) : Prop := red u = red v
theorem E.refl (u : List Int) : E u u := rfl
theorem E.symm {u v : List Int} (h : E u v) : E v u := Eq.symm h
theorem E.trans {u v w : List Int} (h : E u v) (h' : E v w) : E u w := Eq.trans h h'
theorem E.app {u u' v v' : List Int} (h : E u u') (h' : E v v') : E (u ++ v) (u' ++ v') := by
  unfold E at *
  rw [red_app, red_app, h', ← foldr_red (rd_red v') u, ← foldr_red (rd_red v') u', h]
theorem E.left {u u' : List Int} (h : E u u') (v : List Int) : E (u ++ v) (u' ++ v) := h.app (.refl v)
theorem E.right {v v' : List Int} (u : List Int) (h : E v v') : E (u ++ v) (u ++ v') := (E.refl u).app h
theorem e_red (u : List Int) : E (red u) u := red_red u
theorem e_cancel {a b : Int} (h : a + b = 0) (w : List Int) : E (a :: b :: w) w := by
  show push a (push b (red w)) = red w
  exact push_push h (rd_red w)
theorem e_cancel_in {a b : Int} (h : a + b = 0) (u w : List Int) : E (u ++ a :: b :: w) (u ++ w) := (e_cancel h w).right u

theorem rinv_app (u v : List Int) : rinv (u ++ v) = rinv v ++ rinv u := by simp [rinv]
theorem rinv_rinv (u : List Int) : rinv (rinv u) = u := by
  simp [rinv, List.map_reverse, Function.comp_def]
theorem rinv_cons (a : Int) (u : List Int) : rinv (a :: u) = rinv u ++ [-a] := by simp [rinv]
theorem e_inv : ∀ u : List Int, E (u ++ rinv u) []
  | [] => rfl
  | a :: u => by
    rw [rinv_cons]
    have h : a :: u ++ (rinv u ++ [-a]) = [a] ++ ((u ++ rinv u) ++ [-a]) := by simp
    rw [h]
    exact (((e_inv u).left [-a]).right [a]).trans (e_cancel (by omega) [])
theorem e_inv' (u : List Int) : E (rinv u ++ u) [] := by
  have := e_inv (rinv u)
  rwa [rinv_rinv] at this
theorem E.inv {u v : List Int} (h : E u v) : E (rinv u) (rinv v) := by
  have h1 : E (rinv u) (rinv u ++ (v ++ rinv v)) := by
    have := (e_inv v).symm.right (rinv u)
    rwa [List.append_nil] at this
  have h2 : E (rinv u ++ (v ++ rinv v)) (rinv u ++ (u ++ rinv v)) := (h.symm.left _).right _
  have h3 : E (rinv u ++ (u ++ rinv v)) (rinv v) := by
    have := (e_inv' u).left (rinv v)
    simpa [List.append_assoc] using this
  exact h1.trans (h2.trans h3)
theorem E.cancel_right {u v w : List Int} (h : E (u ++ w) (v ++ w)) : E u v := by
  have := h.left (rinv w)
  have a := (e_inv w).right u
  have b := (e_inv w).right v
  simp only [List.append_assoc, List.append_nil] at this a b
  exact a.symm.trans (this.trans b)

/- ---- a word that commutes with a letter is a power of it ---- -/
def kill (n : Int) (w : List Int) : List Int := w.filter fun a => a != n && a != -n

theorem kill_app (n : Int) (u v : List Int) : kill n (u ++ v) = kill n u ++ kill n v := by simp [kill]
theorem kill_rinv (n : Int) (u : List Int) : kill n (rinv u) = rinv (kill n u) := by
  simp only [kill, rinv, List.filter_reverse, List.filter_map, Function.comp_def]
  congr 2
  apply List.filter_congr
  intro a _
  have h1 : (-a != n) = (a != -n) := by
    rw [Bool.eq_iff_iff]; simp only [bne_iff_ne]; omega
  have h2 : (-a != -n) = (a != n) := by
    rw [Bool.eq_iff_iff]; simp only [bne_iff_ne]; omega
  rw [h1, h2, Bool.and_comm]
theorem e_kill_red (n : Int) : ∀ u : List Int, E (kill n (red u)) (kill n u)
  | [] => rfl
  | a :: u => by
    have ih := e_kill_red n u
    show E (kill n (push a (red u))) (kill n ([a] ++ u))
    rw [kill_app]
    refine .trans ?_ (ih.right (kill n [a]))
    cases red u with
    | nil =>
      have e : kill n (push a []) = kill n [a] ++ kill n [] := by rw [← kill_app]; rfl
      rw [e]; exact .refl _
    | cons b t =>
      rw [push_cons]
      split
      · next h =>
        have : kill n [a] ++ kill n (b :: t) = kill n [a, b] ++ kill n t := by rw [← kill_app, ← kill_app]; rfl
        rw [this]
        by_cases hk : a = n ∨ a = -n
        · have e : kill n [a, b] = [] := by
            simp only [kill, List.filter_eq_nil_iff, List.mem_cons, List.not_mem_nil, or_false, Bool.and_eq_true, bne_iff_ne]
            rintro x (rfl | rfl) <;> omega
          rw [e]; exact .refl _
        · have e : kill n [a, b] = [a, b] := by
            simp only [kill, List.filter_eq_self, List.mem_cons, List.not_mem_nil, or_false, Bool.and_eq_true, bne_iff_ne]
            rintro x (rfl | rfl) <;> omega
          rw [e]; exact (e_cancel h _).symm
      · rw [← kill_app]; exact .refl _
theorem E.kill {n : Int} {u v : List Int} (h : E u v) : E (kill n u) (kill n v) := by
  have := e_kill_red n u
  rw [h] at this
  exact this.symm.trans (e_kill_red n v)

theorem push_eq_nil {a : Int} {l : List Int} (h : push a l = []) : l = [-a] := by
  cases l with
  | nil => cases h
  | cons b t =>
    rw [push_cons] at h
    split at h
    · next h0 =>
      rw [h]
      have : b = -a := by omega
      rw [this]
    · cases h

/- a reduced word behind which a letter is put -/
theorem red_snoc : ∀ {u : List Int} (_ : Rd u) (x : Int), red (u ++ [x]) = u ++ [x] ∨ ∃ v, u = v ++ [-x] ∧ red (u ++ [x]) = v
  | [], _, x => .inl rfl
  | [a], _, x => by
    by_cases h : a + x = 0
    · right
      refine ⟨[], ?_, ?_⟩
      · have : a = -x := by omega
        rw [this]; rfl
      · simp [red, push, h]
    · left; simp [red, push, h]
  | a :: b :: t, h, x => by
    have e : red (a :: b :: t ++ [x]) = push a (red (b :: t ++ [x])) := rfl
    rcases red_snoc h.2 x with h1 | ⟨v, hv, h1⟩
    · left
      rw [e, h1]
      show push a (b :: (t ++ [x])) = _
      rw [push_cons]
      rw [if_neg h.1]; rfl
    · right
      refine ⟨a :: v, by rw [hv]; rfl, ?_⟩
      rw [e, h1]
      cases v with
      | nil => rfl
      | cons c s =>
        have : b = c := by
          have := congrArg List.head? hv
          simpa using this
        subst this
        rw [push_cons]
        rw [if_neg h.1]

theorem commutes {x : Int} (hx : x ≠ 0) : ∀ (k : Nat) {u : List Int}, u.length ≤ k → Rd u → E (u ++ [x]) (x :: u) → ∀ a ∈ u, a = x ∨ a = -x := by
  intro k
  induction k with
  | zero =>
    intro u hk _ _ a ha
    have : u = [] := List.length_eq_zero_iff.1 (by omega)
    subst this; cases ha
  | succ k ih =>
    intro u hk hu he
    cases u with
    | nil => intro a ha; cases ha
    | cons b t =>
      by_cases hb : b = x ∨ b = -x
      · have ht : ∀ a ∈ t, a = x ∨ a = -x := by
          refine ih (by rw [List.length_cons] at hk; omega) hu.tail ?_
          have h1 : E ([-b] ++ (b :: t ++ [x])) (t ++ [x]) := e_cancel (by omega) _
          have h2 : E ([-b] ++ (x :: b :: t)) (x :: t) := by
            rcases hb with rfl | rfl
            · exact e_cancel (by omega) _
            · skip
              have a2 := e_cancel (a := x) (b := -x) (by omega) t
              have a3 := a2.right [- -x]
              refine a3.trans ?_
              have e : (- -x) = x := by omega
              rw [e]; exact .refl _
          exact h1.symm.trans ((he.right [-b]).trans h2)
        intro a ha
        rcases List.mem_cons.1 ha with rfl | ha
        · exact hb
        · exact ht a ha
      · exfalso
        have h1 : red (x :: b :: t) = x :: b :: t := red_of_rd ⟨by omega, hu⟩
        have he' : red (b :: t ++ [x]) = x :: b :: t := Eq.trans he h1
        rcases red_snoc hu x with h2 | ⟨v, hv, h2⟩
        · rw [h2] at he'
          have := congrArg List.head? he'
          simp at this
          omega
        · rw [h2] at he'
          have e1 := congrArg List.length he'
          have e2 := congrArg List.length hv
          simp at e1 e2
          omega

theorem kill_of_all {n : Int} {u : List Int} (h : ∀ a ∈ u, a = n ∨ a = -n) : kill n u = [] := by
  simp only [kill, List.filter_eq_nil_iff, Bool.and_eq_true, bne_iff_ne]
  intro a ha; rcases h a ha with h | h <;> omega

/- of a letter that is told by u n u^-1 alone: u without n is nothing -/
theorem conj_kill {n : Int} (hn : n ≠ 0) {u : List Int} (h : E (u ++ [n] ++ rinv u) [n]) : E (kill n u) [] := by
  have h1 : E (u ++ [n]) (n :: u) := by
    have := h.left u
    have a := (e_inv' u).right (u ++ [n])
    simp only [List.append_assoc, List.append_nil, List.cons_append, List.nil_append] at this a
    have := a.symm.trans this
    simpa using this
  have h2 : E (red u ++ [n]) (n :: red u) := ((e_red u).left [n]).trans (h1.trans ((e_red u).symm.right [n]))
  have h3 := commutes hn _ (Nat.le_refl _) (rd_red u) h2
  have h4 := kill_of_all h3
  have h5 := e_kill_red n u
  rw [h4] at h5
  exact h5.symm

/- ---- tuples of words, and what letters do to them ---- -/
abbrev Tup := Nat → List Int
def ini : Tup := fun j => [(j : Int)]
def a1 (T : Tup) (x : Int) : Tup :=
  let i := x.natAbs
  if x = 0 then T
  else if 0 < x then fun j => if j = i then T i ++ T (i + 1) ++ rinv (T i) else if j = i + 1 then T i else T j
  else fun j => if j = i then T (i + 1) else if j = i + 1 then rinv (T (i + 1)) ++ T i ++ T (i + 1) else T j
def act (T : Tup) (w : List Int) : Tup := w.foldl a1 T

def ET (T S : Tup) : Prop := ∀ j, 1 ≤ j → E (T j) (S j)
theorem ET.refl (T : Tup) : ET T T := fun _ _ => .refl _
theorem ET.symm {T S : Tup} (h : ET T S) : ET S T := fun j hj => (h j hj).symm
theorem ET.trans {T S R : Tup} (h : ET T S) (h' : ET S R) : ET T R := fun j hj => (h j hj).trans (h' j hj)

theorem ET.a1 {T S : Tup} (h : ET T S) (x : Int) : ET (a1 T x) (a1 S x) := by
  intro j hj
  unfold Bd.a1
  by_cases h0 : x = 0
  · simp only [h0, if_true]; exact h j hj
  · simp only [h0, if_false]
    have hi : 1 ≤ x.natAbs := by omega
    have e1 := h _ hi
    have e2 := h (x.natAbs + 1) (by omega)
    by_cases hx : 0 < x
    · simp only [hx, if_true]
      split
      · exact (e1.app e2).app e1.inv
      · split
        · exact e1
        · exact h j hj
    · simp only [hx, if_false]
      split
      · exact e2
      · split
        · exact (e2.inv.app e1).app e2
        · exact h j hj
theorem ET.act {T S : Tup} (h : ET T S) (w : List Int) : ET (act T w) (act S w) := by
  induction w generalizing T S with
  | nil => exact h
  | cons x w ih => exact ih (h.a1 x)
theorem act_app (T : Tup) (u v : List Int) : act T (u ++ v) = act (act T u) v := List.foldl_append

/- substitution -/
def ltr (T : Tup) (x : Int) : List Int := if 0 < x then T x.toNat else if x < 0 then rinv (T (-x).toNat) else [0]
def sb (T : Tup) (w : List Int) : List Int := w.flatMap (ltr T)
theorem ltr_neg (T : Tup) (x : Int) : ltr T (-x) = rinv (ltr T x) := by
  unfold ltr
  rcases Int.lt_trichotomy x 0 with h | h | h
  · rw [if_pos (by omega), if_neg (by omega), if_pos h, rinv_rinv]
  · subst h; simp [rinv]
  · rw [if_neg (by omega), if_pos (by omega), if_pos h]
    simp
theorem sb_app (T : Tup) (u v : List Int) : sb T (u ++ v) = sb T u ++ sb T v := by simp [sb]
theorem sb_cons (T : Tup) (a : Int) (v : List Int) : sb T (a :: v) = ltr T a ++ sb T v := by simp [sb]
theorem sb_rinv (T : Tup) : ∀ u : List Int, sb T (rinv u) = rinv (sb T u)
  | [] => rfl
  | a :: u => by
    rw [rinv_cons, sb_app, sb_rinv T u, sb_cons T a u, rinv_app, sb_cons, ltr_neg]; simp [sb]
theorem e_sb_red (T : Tup) : ∀ u : List Int, E (sb T (red u)) (sb T u)
  | [] => rfl
  | a :: u => by
    have ih := e_sb_red T u
    show E (sb T (push a (red u))) (sb T (a :: u))
    rw [sb_cons]
    refine .trans ?_ (ih.right (ltr T a))
    cases red u with
    | nil => simp only [push, sb_cons]; exact .refl _
    | cons b t =>
      rw [push_cons]
      split
      · next h =>
        have : b = -a := by omega
        rw [sb_cons, this, ltr_neg, ← List.append_assoc]
        exact ((e_inv (ltr T a)).left _).symm
      · rw [sb_cons]; exact .refl _
theorem E.sb {u v : List Int} (h : E u v) (T : Tup) : E (sb T u) (sb T v) := by
  have := e_sb_red T u
  rw [h] at this
  exact this.symm.trans (e_sb_red T v)

/- letters act behind a substitution -/
theorem a1_sb (T S : Tup) (x : Int) (j : Nat) : a1 (fun k => sb T (S k)) x j = sb T (a1 S x j) := by
  unfold a1
  by_cases h0 : x = 0
  · simp only [h0, if_true]
  · simp only [h0, if_false]
    by_cases hx : 0 < x
    · simp only [hx, if_true]
      split
      · rw [sb_app, sb_app, sb_rinv]
      · split <;> rfl
    · simp only [hx, if_false]
      split
      · rfl
      · split
        · rw [sb_app, sb_app, sb_rinv]
        · rfl
theorem act_sb (T S : Tup) (w : List Int) : act (fun k => sb T (S k)) w = fun j => sb T (act S w j) := by
  induction w generalizing S with
  | nil => rfl
  | cons x w ih =>
    show act (a1 _ x) w = _
    have : a1 (fun k => sb T (S k)) x = fun j => sb T (a1 S x j) := funext fun j => a1_sb T S x j
    rw [this, ih]; rfl
theorem act_of (T : Tup) (w : List Int) : ET (act T w) (fun j => sb T (act ini w j)) := by
  rw [← act_sb]
  refine ET.act ?_ w
  intro j hj
  have : sb T (ini j) = T j := by
    simp only [ini, sb, List.flatMap_cons, List.flatMap_nil, List.append_nil, ltr]
    rw [if_pos (by omega)]; simp
  show E (T j) (sb T (ini j))
  rw [this]; exact .refl _

end Bd
