/- Words for Homfly: few powers; bounds. -/
import Derived.Test.YtlicglicfijelaaK3
import Derived.Test.YtlicglicfijelaaH8
import Derived.Test.YtlicglicfijelaaS2
namespace Go.Proofs.Ytlicglicfijelaa
open Go.RowKit
open Kn (E2 L2 cf szL exB ofL)

def pcode (R : Nat) (p : E2) : Nat := (p.1 + R).toNat * (2 * R + 1) + (p.2 + R).toNat
theorem pcode_lt {R : Nat} {p : E2} (h : p.1.natAbs ≤ R ∧ p.2.natAbs ≤ R) : pcode R p < (2 * R + 1) * (2 * R + 1) := by
  unfold pcode
  have h1 : (p.1 + R).toNat ≤ 2 * R := by omega
  have h2 : (p.2 + R).toNat ≤ 2 * R := by omega
  have h3 := Nat.mul_le_mul_right (2 * R + 1) h1
  have h4 : (2 * R + 1) * (2 * R + 1) = 2 * R * (2 * R + 1) + (2 * R + 1) := by rw [Nat.add_mul, Nat.one_mul]
  omega
theorem pcode_inj {R : Nat} {p q : E2} (hp : p.1.natAbs ≤ R ∧ p.2.natAbs ≤ R) (hq : q.1.natAbs ≤ R ∧ q.2.natAbs ≤ R) (e : pcode R p = pcode R q) : p = q := by
  unfold pcode at e
  obtain ⟨a, ha⟩ : ∃ a, a = (p.1 + R).toNat := ⟨_, rfl⟩
  obtain ⟨b, hb⟩ : ∃ a, a = (p.2 + R).toNat := ⟨_, rfl⟩
  obtain ⟨c, hc⟩ : ∃ a, a = (q.1 + R).toNat := ⟨_, rfl⟩
  obtain ⟨d, hd⟩ : ∃ a, a = (q.2 + R).toNat := ⟨_, rfl⟩
  rw [← ha, ← hb, ← hc, ← hd] at e
  have hb2 : b < 2 * R + 1 := by omega
  have hd2 : d < 2 * R + 1 := by omega
  have e1 : a = c := by
    have h1 : (a * (2 * R + 1) + b) / (2 * R + 1) = a := by rw [Nat.add_comm, Nat.add_mul_div_right _ _ (by omega), Nat.div_eq_of_lt hb2]; omega
    have h2 : (c * (2 * R + 1) + d) / (2 * R + 1) = c := by rw [Nat.add_comm, Nat.add_mul_div_right _ _ (by omega), Nat.div_eq_of_lt hd2]; omega
    rw [← h1, ← h2, e]
  subst e1
  exact Prod.ext (by omega) (by omega)
theorem pows_few {R : Nat} {l : List E2} (hd : l.Nodup) (hl : ∀ p ∈ l, p.1.natAbs ≤ R ∧ p.2.natAbs ≤ R) : l.length ≤ (2 * R + 1) * (2 * R + 1) := by
  have h1 : (l.map (pcode R)).Nodup := by
    rw [List.nodup_iff_pairwise_ne, List.pairwise_map]
    rw [List.nodup_iff_pairwise_ne] at hd
    exact List.Pairwise.imp_of_mem (fun ha hb hne e => hne (pcode_inj (hl _ ha) (hl _ hb) e)) hd
  have := Kn.nodup_le h1 (m := List.range ((2 * R + 1) * (2 * R + 1))) fun x hx => by
    obtain ⟨y, hy, rfl⟩ := List.mem_map.1 hx
    exact List.mem_range.2 (pcode_lt (hl y hy))
  simpa using this
theorem KeyS.few {R : Nat} {l : L2} {xs : List E2} (h : KeyS l xs) (he : exB R l) : xs.length ≤ (2 * R + 1) * (2 * R + 1) :=
  pows_few h.nd fun p hp => by obtain ⟨t, ht, rfl⟩ := h.mem p hp; exact he t ht
theorem PD.few {w : World} {b m R : Nat} {D : DataW Unit} {l : L2} (hown : w.ownsMap Try.prog 51 (plainElem Try.prog 3) b m D) (hd : PD D l) (he : exB R l) : Maps.size D ≤ (2 * R + 1) * (2 * R + 1) := by
  obtain ⟨es, rfl, hpw, hk⟩ := hown.entries Try.law51
  have hkey : ∀ e ∈ es, ∃ p : E2, keyOf Try.prog 51 (pV p) = some e.1 ∧ p.1.natAbs ≤ R ∧ p.2.natAbs ≤ R := fun e hem => by
    obtain ⟨p, h1, t, ht, rfl⟩ := hd.key e.1 (by
      unfold Maps.has
      simp only [List.any_eq_true]
      exact ⟨e, hem, Go.WideAt.sameKey_self (hk e hem)⟩)
    exact ⟨_, h1, he t ht⟩
  obtain ⟨f, hf⟩ : ∃ f : Lit × DataW Unit → E2, ∀ e ∈ es, keyOf Try.prog 51 (pV (f e)) = some e.1 ∧ (f e).1.natAbs ≤ R ∧ (f e).2.natAbs ≤ R := by
    classical
    exact ⟨fun e => if h : e ∈ es then Classical.choose (hkey e h) else (0, 0), fun e h => by simp only [dif_pos h]; exact Classical.choose_spec (hkey e h)⟩
  have h1 : (es.map f).Nodup := by
    rw [List.nodup_iff_pairwise_ne, List.pairwise_map]
    refine List.Pairwise.imp_of_mem ?_ hpw
    intro a b ha hb hne e
    have h2 := (hf a ha).1
    have h3 := (hf b hb).1
    rw [e, h3] at h2
    exact hne (Option.some.inj h2).symm
  have := pows_few h1 fun p hp => by
    obtain ⟨e, hem, rfl⟩ := List.mem_map.1 hp
    exact (hf e hem).2
  rw [List.length_map] at this
  exact this
theorem strands_few {X : List Kn.Cr} (hX : Kn.Ok X) : (Kn.strandsL X).length ≤ 2 * X.length ∧ (1 ≤ X.length → 1 ≤ (Kn.strandsL X).length) := by
  have hpf : ((Kn.strandsL X).flatten).length = 2 * X.length := by rw [(Kn.strands_perm hX).length_eq, Kn.arcs_length]; rfl
  have gen : ∀ ll : List (List Nat), (∀ r ∈ ll, r ≠ []) → ll.length ≤ ll.flatten.length := by
    intro ll
    induction ll with
    | nil => intro _; simp
    | cons r ll ih =>
      intro hr
      have h2 := ih fun r h => hr r (by simp [h])
      have h3 : 0 < r.length := List.length_pos_iff.2 (hr r (by simp))
      rw [List.flatten_cons, List.length_append, List.length_cons]; omega
  refine ⟨by have := gen _ (Kn.strands_ne X); omega, fun h => ?_⟩
  cases hc : Kn.strandsL X with
  | nil => rw [hc] at hpf; simp at hpf; omega
  | cons r ll => simp
end Go.Proofs.Ytlicglicfijelaa
