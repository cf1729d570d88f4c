/- A piece as seen from a crossing; the canonical form: plain mathematics. -/
import Derived.Test.YtgjmjbgicfkojaaMPiece
namespace Go.Proofs.Ytgjmjbgicfkojaa.Kn

abbrev Vw := List Nat × List Int
def plusI (x : Cr) : Int := if x.p then 1 else 0
def seePl (X : List Cr) (st : Vw) (p : Pl) : Vw :=
  (if (other X p).1 ∈ st.1 then st.1 else st.1 ++ [(other X p).1], st.2 ++ [((st.1.idxOf (other X p).1 : Nat) : Int), (((other X p).2 : Nat) : Int)])
def seeSides (X : List Cr) (c : Nat) : Nat → Vw → Vw
  | 0, st => st
  | k + 1, st => seePl X (seeSides X c k st) (c, k)
def seeC (X : List Cr) (st : Vw) (c : Nat) : Vw := seeSides X c 4 (st.1, st.2 ++ [plusI (cr X c)])
def seeG (X : List Cr) : Nat → Nat → Vw → Vw
  | 0, _, st => st
  | k + 1, i, st => if i < st.1.length then seeG X k (i + 1) (seeC X st (st.1.getD i 0)) else st
def see (X : List Cr) (c : Nat) : Vw := seeG X (X.length + 1) 0 ([c], [])

/- lists compared as slices.Compare does -/
def cmpI (a b : Int) : Int := if a < b then -1 else if b < a then 1 else 0
def cmpL : List Int → List Int → Int
  | [], [] => 0
  | [], _ :: _ => -1
  | _ :: _, [] => 1
  | x :: xs, y :: ys => if cmpI x y = 0 then cmpL xs ys else cmpI x y
theorem cmpI_zero {a b : Int} : cmpI a b = 0 ↔ a = b := by unfold cmpI; split <;> (try split) <;> omega
theorem cmpI_neg {a b : Int} : cmpI a b < 0 ↔ a < b := by unfold cmpI; split <;> (try split) <;> omega
theorem cmpI_cases (a b : Int) : cmpI a b = -1 ∨ cmpI a b = 0 ∨ cmpI a b = 1 := by unfold cmpI; split <;> (try split) <;> omega
theorem cmpI_anti (a b : Int) : cmpI b a = -cmpI a b := by unfold cmpI; split <;> split <;> (try split) <;> omega
theorem cmpL_self : ∀ l : List Int, cmpL l l = 0
  | [] => rfl
  | x :: xs => by rw [cmpL, if_pos (cmpI_zero.2 rfl), cmpL_self xs]
theorem cmpL_anti : ∀ l m : List Int, cmpL m l = -cmpL l m
  | [], [] => rfl
  | [], _ :: _ => rfl
  | _ :: _, [] => rfl
  | x :: xs, y :: ys => by
    rw [cmpL, cmpL, cmpI_anti x y]
    by_cases c : cmpI x y = 0
    · rw [if_pos (by omega), if_pos c, cmpL_anti xs ys]
    · rw [if_neg (by omega), if_neg c]
theorem cmpL_zero : ∀ {l m : List Int}, cmpL l m = 0 ↔ l = m
  | [], [] => by simp [cmpL]
  | [], _ :: _ => by simp [cmpL]
  | _ :: _, [] => by simp [cmpL]
  | x :: xs, y :: ys => by
    rw [cmpL, List.cons.injEq]
    by_cases c : cmpI x y = 0
    · rw [if_pos c, cmpL_zero, ← cmpI_zero]; simp [c]
    · rw [if_neg c, ← cmpI_zero (a := x)]; simp [c]
theorem cmpL_cases : ∀ l m : List Int, cmpL l m = -1 ∨ cmpL l m = 0 ∨ cmpL l m = 1
  | [], [] => .inr (.inl rfl)
  | [], _ :: _ => .inl rfl
  | _ :: _, [] => .inr (.inr rfl)
  | x :: xs, y :: ys => by
    rw [cmpL]
    split
    · exact cmpL_cases xs ys
    · exact cmpI_cases x y
/- 'not greater' goes on -/
theorem cmpL_trans : ∀ {l m n : List Int}, cmpL l m ≤ 0 → cmpL m n ≤ 0 → cmpL l n ≤ 0
  | [], m, [], _, _ => by simp [cmpL]
  | [], m, _ :: _, _, _ => by simp [cmpL]
  | _ :: _, [], n, h, _ => by simp [cmpL] at h
  | x :: xs, y :: ys, [], _, h => by simp [cmpL] at h
  | x :: xs, y :: ys, z :: zs, h, k => by
    rw [cmpL] at h k ⊢
    have e1 := @cmpI_zero x y
    have e2 := @cmpI_zero y z
    have e3 := @cmpI_zero x z
    have e4 := @cmpI_neg x y
    have e5 := @cmpI_neg y z
    have e6 := @cmpI_neg x z
    by_cases c1 : cmpI x y = 0 <;> by_cases c2 : cmpI y z = 0
    · rw [if_pos c1] at h
      rw [if_pos c2] at k
      rw [if_pos (by rw [e3]; rw [e1] at c1; rw [e2] at c2; omega)]
      exact cmpL_trans h k
    · rw [if_neg c2] at k
      have hy : x = y := e1.1 c1
      subst hy
      rw [if_neg c2]; exact k
    · rw [if_neg c1] at h
      have hy : y = z := e2.1 c2
      subst hy
      rw [if_neg c1]; exact h
    · rw [if_neg c1] at h
      rw [if_neg c2] at k
      have h1 : x < y := e4.1 (by omega)
      have h2 : y < z := e5.1 (by omega)
      have h3 : cmpI x z < 0 := e6.2 (by omega)
      rw [if_neg (by omega)]; omega

/- the best view of a piece; views compared; views in order -/
def best (X : List Cr) (l : List Nat) : Vw := l.tail.foldl (fun b c => if cmpL (see X c).2 b.2 < 0 then see X c else b) (see X (l.headD 0))
def cmpV (a b : Vw) : Int := if (a.1.length : Int) - b.1.length = 0 then cmpL a.2 b.2 else (a.1.length : Int) - b.1.length
def insV (x : Vw) : List Vw → List Vw
  | [] => [x]
  | y :: ys => if cmpV x y < 0 then x :: y :: ys else y :: insV x ys
/- one behind the other put into those ahead -/
def sortV (l : List Vw) : List Vw := l.foldl (fun s x => insV x s) []
def viewsL (X : List Cr) : List Vw := sortV ((piecesL X).map (best X))

/- new numbers of arcs: in the order in which they are met -/
def meet (N : List Nat) (a : Nat) : List Nat := if a ∈ N then N else N ++ [a]
def firsts (l : List Nat) : List Nat := l.foldl meet []
def arcsOf (X : List Cr) (c : Nat) : List Nat := [arcN X (c, 0), arcN X (c, 1), arcN X (c, 2), arcN X (c, 3)]
def Cr.ren (x : Cr) (f : Nat → Nat) : Cr := ⟨f x.a.toNat, f x.b.toNat, f x.c.toNat, f x.d.toNat, x.p⟩
def numbered (X : List Cr) (os : List Nat) : List Cr := os.map fun c => (cr X c).ren fun a => (firsts (os.flatMap (arcsOf X))).idxOf a + 1
def orderL (X : List Cr) : List Nat := (viewsL X).flatMap (·.1)
def formL (X : List Cr) : List Cr := numbered X (orderL X)
theorem trefoil_form : (formL trefoil).length = 3 := by decide
end Go.Proofs.Ytgjmjbgicfkojaa.Kn
