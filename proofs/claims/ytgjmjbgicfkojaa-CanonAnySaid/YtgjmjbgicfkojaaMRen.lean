/- A diagram under other numbers: plain mathematics. -/
import Derived.Test.YtgjmjbgicfkojaaMForm
import Derived.Test.YtgjmjbgicfkojaaMCls
namespace Go.Proofs.Ytgjmjbgicfkojaa.Kn

/- other numbers of arcs, another order of crossings -/
def renL (X : List Cr) (f t : Nat → Nat) : List Cr := (List.range X.length).map fun i => (cr X (f i)).ren t
structure Nums (n : Nat) (t : Nat → Nat) : Prop where
  rng : ∀ a, 1 ≤ a → a ≤ n → 1 ≤ t a ∧ t a ≤ n
  inj : ∀ a b, 1 ≤ a → a ≤ n → 1 ≤ b → b ≤ n → t a = t b → a = b
structure Pos (n : Nat) (f : Nat → Nat) : Prop where
  lt : ∀ i, i < n → f i < n
  inj : ∀ i j, i < n → j < n → f i = f j → i = j
theorem swp_or (x y z : Nat) : swp x y z = x ∨ swp x y z = y ∨ swp x y z = z := by
  unfold swp; split
  · exact .inr (.inl rfl)
  · split
    · exact .inl rfl
    · exact .inr (.inr rfl)
theorem swp_inj {x y a b : Nat} (e : swp x y a = swp x y b) : a = b := by rw [← swp_swp x y a, e, swp_swp]
theorem Nums.id (n : Nat) : Nums n fun a => a := ⟨fun a h1 h2 => ⟨h1, h2⟩, fun _ _ _ _ _ _ e => e⟩
theorem Nums.swap {n : Nat} {t : Nat → Nat} (h : Nums n t) {x y : Nat} (hx : 1 ≤ x) (hx' : x ≤ n) (hy : 1 ≤ y) (hy' : y ≤ n) : Nums n fun a => t (swp x y a) := by
  have key : ∀ a, 1 ≤ a → a ≤ n → 1 ≤ swp x y a ∧ swp x y a ≤ n := fun a h1 h2 => by rcases swp_or x y a with e | e | e <;> rw [e] <;> omega
  refine ⟨fun a h1 h2 => ?_, fun a b h1 h2 h3 h4 e => ?_⟩
  · exact h.rng _ (key a h1 h2).1 (key a h1 h2).2
  · exact swp_inj (h.inj _ _ (key a h1 h2).1 (key a h1 h2).2 (key b h3 h4).1 (key b h3 h4).2 e)
theorem Pos.id (n : Nat) : Pos n fun a => a := ⟨fun _ h => h, fun _ _ _ _ e => e⟩
theorem Pos.swap {n : Nat} {f : Nat → Nat} (h : Pos n f) {x y : Nat} (hx : x < n) (hy : y < n) : Pos n fun a => f (swp x y a) := by
  have key : ∀ a, a < n → swp x y a < n := fun a h1 => by rcases swp_or x y a with e | e | e <;> rw [e] <;> omega
  exact ⟨fun a h1 => h.lt _ (key a h1), fun a b h1 h2 e => swp_inj (h.inj _ _ (key a h1) (key b h2) e)⟩
theorem renL_len (X : List Cr) (f t : Nat → Nat) : (renL X f t).length = X.length := by simp [renL]
theorem renL_cr {X : List Cr} {f t : Nat → Nat} {i : Nat} (hi : i < X.length) : cr (renL X f t) i = (cr X (f i)).ren t := by
  unfold cr renL
  rw [List.getD_eq_getElem?_getD, List.getElem?_map, List.getElem?_range hi]; rfl
theorem ren_iso {X : List Cr} {f t : Nat → Nat} (hf : Pos X.length f) (ht : Nums (2 * X.length) t) : Iso X (renL X f t) f t :=
  ⟨renL_len X f t, hf.lt, hf.inj, fun _ hi => renL_cr hi, fun a h => ht.rng a h.1 h.2, fun a b h k e => ht.inj a b h.1 h.2 k.1 k.2 e⟩
end Go.Proofs.Ytgjmjbgicfkojaa.Kn
