/- Walks: Rings, Strands. -/
import Derived.Test.YtdelekkbkpldjaaDoorW8
namespace Go.Proofs.YtdelekkbkpldjaaDoor
open Go.RowKit

structure RInv (w wr : World) (sb : Nat) (X : List Kn.Cr) (k : Nat) (seen : List Nat) (rs : List (List Nat)) (o : Value) : Prop where
  new : New w wr
  lb : w.heap.size ≤ sb
  row : wr.rowIs sb 4 (Kn.nArcs X + 1) (boolFn fun j => decide (j ∈ seen))
  out : Rows OwnN w.heap.size 22 wr o rs
  nd : seen.Nodup
  sub : ∀ x ∈ seen, x ∈ Kn.arcs X
  eq : rs ++ Kn.rings (Kn.nextA X) (Kn.nArcs X + 1) seen ((Kn.arcs X).drop (k - 1)) = Kn.strandsL X
structure QInv (wo wr : World) (sb : Nat) (X : List Kn.Cr) (k : Nat) (seen r : List Nat) (x : Nat) (s : Value) : Prop where
  fr : Fr (fun j => j = sb) wo wr
  row : wr.rowIs sb 4 (Kn.nArcs X + 1) (boolFn fun j => decide (j ∈ seen ++ r))
  ring : wr.ownsRow wo.heap.size 3 1 s r.length (nums r)
  nd : (seen ++ r).Nodup
  sub : ∀ x ∈ seen ++ r, x ∈ Kn.arcs X
  arc : Kn.isArc X x
  eq : ∃ f, f + r.length = Kn.nArcs X + 1 ∧ r ++ Kn.ring (Kn.nextA X) f (seen ++ r) x = Kn.ring (Kn.nextA X) (Kn.nArcs X + 1) seen k
theorem arcs_drop {X : List Kn.Cr} {k : Nat} (h1 : 1 ≤ k) (h2 : k ≤ Kn.nArcs X) : (Kn.arcs X).drop (k - 1) = k :: (Kn.arcs X).drop k := by
  have hl : k - 1 < (Kn.arcs X).length := by rw [Kn.arcs_length]; omega
  rw [List.drop_eq_getElem_cons hl, show k - 1 + 1 = k by omega]
  congr 1
  simp [Kn.arcs]; omega
/- a call that hands back lists of numbers in new memory -/
def GaveRows (ll : List (List Nat)) (w : World) (e : Ending) (w' : World) : Prop := ∃ v, e = .returned v ∧ Rows OwnN w.heap.size 22 w' v ll ∧ New w w'
theorem QInv.snoc {wo wr : World} {sb : Nat} {X : List Kn.Cr} {k : Nat} {seen r : List Nat} {x : Nat} {s : Value} (h : QInv wo wr sb X k seen r x s) (hx : x ∉ seen ++ r) :
    (seen ++ (r ++ [x])).Nodup ∧ (∀ y ∈ seen ++ (r ++ [x]), y ∈ Kn.arcs X) ∧ r.length + 1 ≤ Kn.nArcs X ∧
    ∃ f, f + (r ++ [x]).length = Kn.nArcs X + 1 ∧ (r ++ [x]) ++ Kn.ring (Kn.nextA X) f (seen ++ (r ++ [x])) (Kn.nextA X x) = Kn.ring (Kn.nextA X) (Kn.nArcs X + 1) seen k := by
  have h1 := Kn.nodup_snoc h.nd hx
  have h2 : ∀ y ∈ seen ++ (r ++ [x]), y ∈ Kn.arcs X := fun y hy => by
    rw [← List.append_assoc, List.mem_append, List.mem_singleton] at hy
    rcases hy with hy | rfl
    · exact h.sub y hy
    · exact Kn.mem_arcs.2 h.arc
  rw [List.append_assoc] at h1
  have h3 := Kn.nodup_le h1 h2
  rw [Kn.arcs_length] at h3
  simp only [List.length_append, List.length_singleton] at h3
  refine ⟨h1, h2, by omega, ?_⟩
  obtain ⟨f, hf, he⟩ := h.eq
  obtain ⟨f', rfl⟩ : ∃ f', f = f' + 1 := ⟨f - 1, by omega⟩
  refine ⟨f', by simp; omega, ?_⟩
  rw [Kn.ring_new _ hx, List.append_assoc] at he
  rw [List.append_assoc]
  exact he
theorem QInv.done {wo wr : World} {sb : Nat} {X : List Kn.Cr} {k : Nat} {seen r : List Nat} {x : Nat} {s : Value} (h : QInv wo wr sb X k seen r x s) (hx : x ∈ seen ++ r) : r = Kn.ring (Kn.nextA X) (Kn.nArcs X + 1) seen k := by
  obtain ⟨f, _, he⟩ := h.eq
  rw [Kn.ring_seen _ hx, List.append_nil] at he
  exact he

theorem RInv.few {w wr : World} {sb : Nat} {X : List Kn.Cr} {k m : Nat} {seen : List Nat} {rs : List (List Nat)} {o : Value} (h : RInv w wr sb X k seen rs o) (hm : m = Kn.nArcs X) (h32 : m ≤ 32) : rs.length + 1 ≤ 64 := by
  have h1 := Kn.rings_len (Kn.nextA X) (Kn.nArcs X + 1) (Kn.arcs X) []
  have h2 := congrArg List.length h.eq
  unfold Kn.strandsL at h2
  rw [List.length_append] at h2
  rw [Kn.arcs_length] at h1
  omega
theorem mayB_ok {X : List Kn.Cr} {L : Int} (h : Kn.mayB X L = true) : Kn.Ok X ∧ X.length ≤ 16 := by
  unfold Kn.mayB at h
  simp only [Bool.and_eq_true, decide_eq_true_eq] at h
  exact ⟨(Kn.ok_iff X).1 h.2, h.1.1.1.1⟩
theorem arcsN' (b m : Nat) (X : List Kn.Cr) (L : Int) (w : World) (h : ShAt w b X L) (hn : X.length ≤ 16) (hm : m = Kn.nArcs X) :
    Calls Tryd.prog 62 #[.pointer (some ⟨b, 0, none⟩)] w fun e w' => e = .returned (.int .i64 (m : Nat)) ∧ w = w' := by
  subst hm; exact arcsN_any b X L w h hn

end Go.Proofs.YtdelekkbkpldjaaDoor
