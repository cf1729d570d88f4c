/- Words on lists of permutations in memory. -/
import Derived.Test.YtlnmboiangnpfaaW10
namespace Go.Proofs.Ytlnmboiangnpfaa
open Go.RowKit

theorem Try.info41 : (Try.prog.info? 41).map (fun i => (i.zero, i.size, i.bytes)) = some (some (.slice none 0 0), 1, 24) := by kernel_rfl

def pv (n b : Nat) : Value := .slice (some ⟨b, 0, none⟩) (n + 1) (n + 1)
/- a slice of permutations that the call owns -/
def Fam (base : Nat) (w : World) (a : Option Addr) (c n : Nat) (bs : List Nat) (L : List (List Nat)) : Prop :=
  w.ownsRow base 41 1 (.slice a L.length c) L.length (bs.map (pv n)) ∧ bs.Nodup ∧ (∀ k, k < L.length → PermAt w (bs.getD k 0) n (L.getD k [])) ∧ ∀ b ∈ bs, base ≤ b

theorem Fam.len {base : Nat} {w : World} {a : Option Addr} {c n : Nat} {bs : List Nat} {L : List (List Nat)} (h : Fam base w a c n bs L) : bs.length = L.length := by
  have := h.1.1; simpa using this
theorem Fam.at {base : Nat} {w : World} {a : Option Addr} {c n : Nat} {bs : List Nat} {L : List (List Nat)} (h : Fam base w a c n bs L) {k : Nat} (hk : k < L.length) :
    ∃ g, a = some ⟨g, 0, none⟩ ∧ base ≤ g ∧ L.length ≤ c ∧ w.cell? ⟨g, k, none⟩ = some (.slice (some ⟨bs.getD k 0, 0, none⟩) (n + 1) (n + 1)) ∧ w.frozen? ⟨g, k, none⟩ = false ∧ PermAt w (bs.getD k 0) n (L.getD k []) := by
  have hl := h.len
  rcases h.1.2 with ⟨h0, h1⟩ | ⟨g, cap, cur, hv, hb, hg, hn, hc, hs, ht⟩
  · omega
  · cases hv
    refine ⟨g, rfl, hb, hn, ?_, h.1.frozenAt k, h.2.2.1 k hk⟩
    rw [h.1.cellAt k (by omega), List.getElem?_map, List.getElem?_eq_getElem (by omega)]
    simp [pv, List.getD_eq_getElem?_getD, List.getElem?_eq_getElem (show k < bs.length by omega)]
/- the row's own block holds slices, a permutation's holds numbers -/
theorem Fam.apart {base : Nat} {w : World} {g c n : Nat} {bs : List Nat} {L : List (List Nat)} (h : Fam base w (some ⟨g, 0, none⟩) c n bs L) {b : Nat} {p : List Nat} (hp : PermAt w b n p) : b ≠ g := by
  rintro rfl
  rcases h.1.2 with ⟨h0, _⟩ | ⟨g', cap, cur, hv, hb, hg, _⟩
  · cases h0
  · cases hv
    obtain ⟨c', hc', _⟩ := hp.1
    rw [hg] at hc'
    cases hc'
theorem Fam.new {base : Nat} {w w' : World} {a : Option Addr} {c n : Nat} {bs : List Nat} {L : List (List Nat)} (h : Fam base w a c n bs L) (hn : New w w') : Fam base w' a c n bs L :=
  ⟨Fr.owns hn h.1 fun _ _ x => x, h.2.1, fun k hk => New.perm hn (h.2.2.1 k hk), h.2.2.2⟩
theorem fam_nil (base : Nat) (w : World) (n : Nat) : Fam base w none 0 n [] [] :=
  ⟨World.ownsRow_nil _ _ _ _, List.nodup_nil, fun _ h => by simp at h, fun _ h => by cases h⟩
theorem getD_app_lt {α : Type} {l m : List α} {k : Nat} (d : α) (h : k < l.length) : (l ++ m).getD k d = l.getD k d := by
  simp [List.getD_eq_getElem?_getD, List.getElem?_append_left h]
theorem getD_app_last {α : Type} {l : List α} (x d : α) : (l ++ [x]).getD l.length d = x := by
  simp [List.getD_eq_getElem?_getD]
/- one more at the end -/
theorem Fam.app {base : Nat} {w' : World} {v' : Value} {n b : Nat} {bs : List Nat} {L : List (List Nat)} {p : List Nat} (ho : w'.ownsRow base 41 1 v' (L.length + 1) (bs.map (pv n) ++ [pv n b])) (hlen : bs.length = L.length) (hnd : bs.Nodup) (hb : b ∉ bs) (hbase : base ≤ b) (hbs : ∀ b ∈ bs, base ≤ b)
    (hp : ∀ k, k < L.length → PermAt w' (bs.getD k 0) n (L.getD k [])) (hpb : PermAt w' b n p) : ∃ a c, v' = .slice a (L ++ [p]).length c ∧ Fam base w' a c n (bs ++ [b]) (L ++ [p]) := by
  have e : (L ++ [p]).length = L.length + 1 := by simp
  have shape : ∃ a c, v' = .slice a (L.length + 1) c := by
    rcases ho.2 with ⟨_, h0⟩ | ⟨g, cap, cur, hv, _⟩
    · omega
    · exact ⟨_, _, hv⟩
  obtain ⟨a, c, rfl⟩ := shape
  refine ⟨a, c, by rw [e], ?_, ?_, ?_, ?_⟩
  · rw [e, List.map_append]; exact ho
  · rw [List.nodup_append]
    exact ⟨hnd, by simp, fun x hx y hy => by rw [List.mem_singleton] at hy; subst hy; exact fun e => hb (e ▸ hx)⟩
  · intro k hk
    rw [e] at hk
    by_cases c : k < L.length
    · rw [getD_app_lt _ (by omega), getD_app_lt _ c]; exact hp k c
    · have : k = L.length := by omega
      subst this
      rw [getD_app_last, ← hlen, getD_app_last]; exact hpb
  · intro x hx
    rcases List.mem_append.1 hx with hx | hx
    · exact hbs x hx
    · rw [List.mem_singleton] at hx; subst hx; exact hbase
theorem nodup_iff {bs : List Nat} : bs.Nodup ↔ ∀ i j, i < j → j < bs.length → bs.getD i 0 ≠ bs.getD j 0 := by
  unfold List.Nodup
  rw [List.pairwise_iff_getElem]
  constructor
  · intro h i j hij hj
    have := h i j (by omega) hj hij
    simpa [List.getD_eq_getElem?_getD, List.getElem?_eq_getElem hj, List.getElem?_eq_getElem (show i < bs.length by omega)] using this
  · intro h i j hi hj hij
    have := h i j hij hj
    simpa [List.getD_eq_getElem?_getD, List.getElem?_eq_getElem hj, List.getElem?_eq_getElem hi] using this
theorem getD_mem0 {bs : List Nat} {i : Nat} (h : i < bs.length) : bs.getD i 0 ∈ bs := by
  rw [List.getD_eq_getElem?_getD, List.getElem?_eq_getElem h]; exact List.getElem_mem h
theorem nodup_set {bs : List Nat} {b : Nat} (h : bs.Nodup) (hb : b ∉ bs) (k : Nat) : (bs.set k b).Nodup := by
  rw [nodup_iff] at h ⊢
  intro i j hij hj
  rw [List.length_set] at hj
  have hi : i < bs.length := by omega
  rw [getD_set, getD_set]
  by_cases c1 : k = i
  · rw [if_pos ⟨c1, hi⟩, if_neg (by omega)]
    exact fun e => hb (e ▸ getD_mem0 hj)
  · rw [if_neg (fun x => c1 x.1)]
    by_cases c2 : k = j
    · rw [if_pos ⟨c2, hj⟩]
      exact fun e => hb (e ▸ getD_mem0 hi)
    · rw [if_neg (fun x => c2 x.1)]
      exact h i j hij hj
/- another permutation at one place -/
theorem Fam.set {base : Nat} {w : World} {g c n b k : Nat} {bs : List Nat} {L : List (List Nat)} {p : List Nat} (h : Fam base w (some ⟨g, 0, none⟩) c n bs L) (hb : b ∉ bs) (hbase : base ≤ b) (hpb : PermAt w b n p) :
    Fam base (w.setCell ⟨g, k, none⟩ (.slice (some ⟨b, 0, none⟩) (n + 1) (n + 1))) (some ⟨g, 0, none⟩) c n (bs.set k b) (L.set k p) := by
  have hl := h.len
  have hfr : Fr (· = g) w (w.setCell ⟨g, k, none⟩ (.slice (some ⟨b, 0, none⟩) (n + 1) (n + 1))) := Fr.setCell (Fr.refl (· = g) w) (a := ⟨g, k, none⟩) (.inl rfl) _
  refine ⟨?_, nodup_set h.2.1 hb k, ?_, ?_⟩
  · have := (h.1.stored k (pv n b)).1
    rw [List.length_set, List.map_set]
    exact this
  · intro j hj
    rw [List.length_set] at hj
    rw [getD_set, getD_set]
    by_cases e : k = j
    · subst e
      rw [if_pos ⟨rfl, by omega⟩, if_pos ⟨rfl, hj⟩]
      exact Fr.perm hfr hpb (h.apart hpb)
    · rw [if_neg (fun x => e x.1), if_neg (fun x => e x.1)]
      exact Fr.perm hfr (h.2.2.1 j hj) (h.apart (h.2.2.1 j hj))
  · intro x hx
    rcases List.mem_or_eq_of_mem_set hx with hx | rfl
    · exact h.2.2.2 x hx
    · exact hbase
theorem nodup_getD {bs : List Nat} (h : bs.Nodup) {i j : Nat} (hi : i < bs.length) (hj : j < bs.length) (hij : i ≠ j) : bs.getD i 0 ≠ bs.getD j 0 := by
  rw [nodup_iff] at h
  rcases Nat.lt_or_gt_of_ne hij with c | c
  · exact h i j c hj
  · exact fun e => h j i c hi e.symm
/- two neighbours are turned in place -/
theorem Fam.turn {base : Nat} {w w' : World} {g c n k : Nat} {bs : List Nat} {L : List (List Nat)} {p q : List Nat} (h : Fam base w (some ⟨g, 0, none⟩) c n bs L) (hk : k + 1 < L.length)
    (hp : PermAt w' (bs.getD k 0) n p) (hq : PermAt w' (bs.getD (k + 1) 0) n q) (hf : Fr (fun x => x = bs.getD k 0 ∨ x = bs.getD (k + 1) 0) w w') : Fam base w' (some ⟨g, 0, none⟩) c n bs ((L.set k p).set (k + 1) q) := by
  have hl := h.len
  refine ⟨?_, h.2.1, ?_, h.2.2.2⟩
  · simp only [List.length_set]
    refine Fr.owns hf h.1 fun x hx => ?_
    cases hx
    rintro (e | e)
    · exact h.apart (h.2.2.1 k (by omega)) e.symm
    · exact h.apart (h.2.2.1 (k + 1) (by omega)) e.symm
  · intro j hj
    simp only [List.length_set] at hj
    rw [getD_set, getD_set]
    simp only [List.length_set]
    by_cases e : k + 1 = j
    · subst e; rw [if_pos ⟨rfl, hj⟩]; exact hq
    · rw [if_neg (fun x => e x.1)]
      by_cases e2 : k = j
      · subst e2; rw [if_pos ⟨rfl, hj⟩]; exact hp
      · rw [if_neg (fun x => e2 x.1)]
        refine Fr.perm hf (h.2.2.1 j hj) ?_
        rintro (x | x)
        · exact nodup_getD h.2.1 (by omega) (by omega) (fun y => e2 y.symm) x
        · exact nodup_getD h.2.1 (by omega) (by omega) (fun y => e y.symm) x
theorem Fam.mem_lt {base : Nat} {w : World} {a : Option Addr} {c n : Nat} {bs : List Nat} {L : List (List Nat)} (h : Fam base w a c n bs L) : ∀ b ∈ bs, b < w.heap.size := by
  intro b hb
  obtain ⟨k, hk, rfl⟩ := List.mem_iff_getElem.1 hb
  have := (h.2.2.1 k (by rw [← h.len]; exact hk)).1.lt
  simpa [List.getD_eq_getElem?_getD, List.getElem?_eq_getElem hk] using this

/- permutations in a row, to be read -/
def FamR (w : World) (a : Option Addr) (n : Nat) (L : List (List Nat)) : Prop :=
  L = [] ∨ ∃ g o, a = some ⟨g, o, none⟩ ∧ ∀ k, k < L.length → ∃ b, w.cell? ⟨g, o + k, none⟩ = some (.slice (some ⟨b, 0, none⟩) (n + 1) (n + 1)) ∧ PermAt w b n (L.getD k [])
theorem FamR.new {w w' : World} {a : Option Addr} {n : Nat} {L : List (List Nat)} (h : FamR w a n L) (hn : New w w') : FamR w' a n L := by
  rcases h with rfl | ⟨g, o, rfl, h⟩
  · exact .inl rfl
  · refine .inr ⟨g, o, rfl, fun k hk => ?_⟩
    obtain ⟨b, h1, h2⟩ := h k hk
    exact ⟨b, hn.cell h1 (fun x => x), New.perm hn h2⟩
theorem Fam.reads {base : Nat} {w : World} {a : Option Addr} {c n : Nat} {bs : List Nat} {L : List (List Nat)} (h : Fam base w a c n bs L) : FamR w a n L := by
  cases L with
  | nil => exact .inl rfl
  | cons p L =>
    obtain ⟨g, rfl, _⟩ := h.at (k := 0) (by simp)
    refine .inr ⟨g, 0, rfl, fun k hk => ?_⟩
    obtain ⟨g', e, _, _, hc, _, hp⟩ := h.at hk
    cases e
    exact ⟨_, by rw [Nat.zero_add]; exact hc, hp⟩
theorem FamR.at {w : World} {a : Option Addr} {n : Nat} {L : List (List Nat)} (h : FamR w a n L) {k : Nat} (hk : k < L.length) :
    ∃ g o b, a = some ⟨g, o, none⟩ ∧ w.cell? ⟨g, o + k, none⟩ = some (.slice (some ⟨b, 0, none⟩) (n + 1) (n + 1)) ∧ PermAt w b n (L.getD k []) := by
  rcases h with rfl | ⟨g, o, rfl, h⟩
  · simp at hk
  · obtain ⟨b, h1, h2⟩ := h k hk
    exact ⟨g, o, b, rfl, h1, h2⟩
end Go.Proofs.Ytlnmboiangnpfaa
