/- Words for the bracket: powers in a row; maps of few exponents. -/
import Derived.Test.YtdelekkbkpldjaaDoorJ4
namespace Go.Proofs.YtdelekkbkpldjaaDoor
open Go.RowKit

theorem ints_few {N : Nat} : ∀ {l : List Int}, l.Nodup → (∀ x ∈ l, -(N : Int) ≤ x ∧ x ≤ N) → l.length ≤ 2 * N + 1 := by
  intro l hd hl
  have h1 : (l.map fun x : Int => (x + (N : Int)).toNat).Nodup := by
    rw [List.nodup_iff_pairwise_ne, List.pairwise_map]
    rw [List.nodup_iff_pairwise_ne] at hd
    refine List.Pairwise.imp_of_mem ?_ hd
    intro a b ha hb hne e
    have := hl a ha
    have := hl b hb
    exact hne (by omega)
  have := Kn.nodup_le h1 (m := List.range (2 * N + 1)) (fun x hx => by
    obtain ⟨y, hy, rfl⟩ := List.mem_map.1 hx
    have := hl y hy
    exact List.mem_range.2 (by omega))
  simpa using this
theorem Wk.few {w : World} {v : Value} {l : List Pl.T} {n N : Nat} (h : Wk w v l n) (he : ∀ t ∈ l, -(N : Int) ≤ t.1 ∧ t.1 ≤ N) : Wk w v l (2 * N + 1) := by
  obtain ⟨b, D, rfl, ho, hd⟩ := h
  obtain ⟨k1, k2, k3⟩ := keys_facts ho
  have h1 := ints_few k1 (N := N) fun x hx => by
    obtain ⟨t, ht, rfl⟩ := hd.key x ((k2 x).1 hx)
    exact he t ht
  refine ⟨b, D, rfl, ?_, hd⟩
  rw [k3] at h1
  obtain ⟨es, clock, hb, hf, hn, rfl⟩ := ho
  refine ⟨es, clock, hb, hf, ?_, rfl⟩
  rw [Maps.size_eq, length_sorted] at h1
  simpa using h1
abbrev PwR (w : World) (v : Value) (k : Nat) : Prop := Wk w v (Kn.pw k) (4 * k + 1)
abbrev PwAt (base : Nat) (w : World) (v : Value) (m : Nat) : Prop := Rows PwR base 64 w v (List.range m)
theorem PwAt.new {base : Nat} {w w' : World} {v : Value} {m : Nat} (h : PwAt base w v m) (hf : New w w') : PwAt base w' v m := Rows.new h hf fun _ _ x => New.wk hf x
theorem PwAt.at {base : Nat} {w : World} {v : Value} {m : Nat} (h : PwAt base w v m) {i : Nat} (hi : i < m) : ∃ g c b, v = .slice (some ⟨g, 0, none⟩) m c ∧ w.cell? ⟨g, i, none⟩ = some (.map (some b)) ∧ Wk w (.map (some b)) (Kn.pw i) (4 * i + 1) := by
  obtain ⟨vs, h1, h2⟩ := h
  have hl : vs.length = m := by rw [h2.len, List.length_range]
  rw [hl] at h1
  obtain ⟨a, c, rfl, _, h3⟩ := own_shape h1
  obtain ⟨g, rfl, _, h4⟩ := h3 (by omega)
  have h5 := h2.at_ i (by omega) (by simpa using hi)
  rw [List.getElem_range] at h5
  obtain ⟨b, D, e, r⟩ := h5
  refine ⟨g, c, b, rfl, ?_, ⟨b, D, rfl, r⟩⟩
  rw [h4 i (by omega), e]
theorem PwAt.sl {base : Nat} {w : World} {v : Value} {m : Nat} (h : PwAt base w v m) : ∃ a c, v = .slice a m c := by
  obtain ⟨vs, h1, h2⟩ := h
  rw [show vs.length = m by rw [h2.len, List.length_range]] at h1
  obtain ⟨a, c, rfl, _, _⟩ := own_shape h1
  exact ⟨a, c, rfl⟩
theorem kinds_size (X : List Kn.Cr) (L : Nat) : ∀ k, Pl.size (Kn.kindsTo X L k) = k
  | 0 => rfl
  | k + 1 => by rw [Kn.kindsTo_succ, Pl.size_app, kinds_size X L k, Pl.size_cons]; rfl
theorem pop_le (n : Nat) : ∀ st, Kn.pop n st ≤ n := by
  induction n with
  | zero => intro st; exact Nat.le_refl _
  | succ n ih => intro st; rw [Kn.pop]; have := ih (st / 2); omega
theorem kindI_is {X : List Kn.Cr} {L : Nat} (h12 : X.length ≤ 12) (hL : 2 * X.length + L ≤ 40) (st : Nat) : isKind (Kn.kindI X L st) := by
  have := pop_le X.length st
  have h2 : Kn.ringsN X L st ≤ 40 := by unfold Kn.ringsN; omega
  refine ⟨⟨?_, ?_⟩, ?_, ?_⟩ <;> simp only [Kn.kindI] <;> omega
theorem Tryd.info64 : (Tryd.prog.info? 64).map (fun i => (i.zero, i.size, i.bytes)) = some (some (.map none), 1, 8) := by kernel_rfl
theorem wrap_all : ((List.range 17).all fun n => decide (wrap64 (2 ^ n) = ((2 ^ n : Nat) : Int))) = true := by decide +kernel
end Go.Proofs.YtdelekkbkpldjaaDoor
