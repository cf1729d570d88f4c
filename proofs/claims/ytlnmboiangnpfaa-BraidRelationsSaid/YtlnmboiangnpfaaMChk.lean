/- Plain mathematics: the places of permutations, by finite checks. -/
import Derived.Test.YtlnmboiangnpfaaMNF2
namespace Bd

def pg (p : List Nat) (j : Nat) : Nat := p.getD j 0

def chkK1 (n : Nat) : Bool := (perms n).all fun p => p.length == n + 1 && (List.range (n + 1)).all fun x => p.contains x && decide (pg p x ≤ n)
def chkK2 (n : Nat) : Bool := (perms n).all fun p => (lets n).all fun i => (List.range (n + 1)).all fun j =>
  pg (thn p i) j == (if j = p.idxOf (i + 1) then pg p (p.idxOf i) else if j = p.idxOf i then pg p (p.idxOf (i + 1)) else pg p j) &&
  pg (swp p i) j == (if j = i + 1 then pg p i else if j = i then pg p (i + 1) else pg p j)
def chkK3 (n : Nat) : Bool := ((perms n).all fun p => (List.range (n + 1)).all fun j => pg (flp n p) j == (if j = 0 then 0 else n + 1 - pg p (n + 1 - j))) &&
  (List.range (n + 1)).all fun j => pg (delta n) j == (if j = 0 then 0 else n + 1 - j) && pg (idn n) j == j
theorem chkK1_ok : ns.all chkK1 = true := by decide +kernel
theorem chkK2_ok : ns.all chkK2 = true := by decide +kernel
theorem chkK3_ok : ns.all chkK3 = true := by decide +kernel

section
variable {n : Nat} (hn : n ∈ ns)
include hn
theorem perm_len {p : Pm} (hp : p ∈ perms n) : p.length = n + 1 := by
  have h := List.all_eq_true.1 (List.all_eq_true.1 chkK1_ok n hn) p hp
  simp only [Bool.and_eq_true, beq_iff_eq] at h
  exact h.1
theorem perm_mem {p : Pm} (hp : p ∈ perms n) {x : Nat} (hx : x ≤ n) : x ∈ p ∧ pg p x ≤ n := by
  have h := List.all_eq_true.1 (List.all_eq_true.1 chkK1_ok n hn) p hp
  simp only [Bool.and_eq_true, beq_iff_eq] at h
  have h := List.all_eq_true.1 h.2 x (List.mem_range.2 (by omega))
  simpa only [Bool.and_eq_true, List.contains_iff_mem, decide_eq_true_eq] using h
theorem perm_then {p : Pm} (hp : p ∈ perms n) {i : Nat} (hi : i ∈ lets n) {j : Nat} (hj : j < n + 1) :
    pg (thn p i) j = (if j = p.idxOf (i + 1) then pg p (p.idxOf i) else if j = p.idxOf i then pg p (p.idxOf (i + 1)) else pg p j) ∧
    pg (swp p i) j = (if j = i + 1 then pg p i else if j = i then pg p (i + 1) else pg p j) := by
  have h := List.all_eq_true.1 (List.all_eq_true.1 (List.all_eq_true.1 (List.all_eq_true.1 chkK2_ok n hn) p hp) i hi) j (List.mem_range.2 hj)
  simpa only [Bool.and_eq_true, beq_iff_eq] using h
theorem perm_flp {p : Pm} (hp : p ∈ perms n) {j : Nat} (hj : j < n + 1) : pg (flp n p) j = (if j = 0 then 0 else n + 1 - pg p (n + 1 - j)) := by
  have h := List.all_eq_true.1 chkK3_ok n hn
  simp only [chkK3, Bool.and_eq_true] at h
  have h := List.all_eq_true.1 (List.all_eq_true.1 h.1 p hp) j (List.mem_range.2 hj)
  simpa only [beq_iff_eq] using h
theorem perm_delta {j : Nat} (hj : j < n + 1) : pg (delta n) j = (if j = 0 then 0 else n + 1 - j) ∧ pg (idn n) j = j := by
  have h := List.all_eq_true.1 chkK3_ok n hn
  simp only [chkK3, Bool.and_eq_true] at h
  have h := List.all_eq_true.1 h.2 j (List.mem_range.2 hj)
  simpa only [Bool.and_eq_true, beq_iff_eq] using h
end
end Bd
