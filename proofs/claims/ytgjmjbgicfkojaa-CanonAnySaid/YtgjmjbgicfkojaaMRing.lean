/- Rings of a list, of which each member has a next one: plain mathematics. -/
namespace Go.Proofs.Ytgjmjbgicfkojaa.Kn

section
variable {α : Type} [DecidableEq α] (nx : α → α)
def ring : Nat → List α → α → List α
  | 0, _, _ => []
  | k + 1, seen, x => if x ∈ seen then [] else x :: ring k (seen ++ [x]) (nx x)
def rings (N : Nat) : List α → List α → List (List α)
  | _, [] => []
  | seen, d :: ds => if d ∈ seen then rings N seen ds else ring nx N seen d :: rings N (seen ++ ring nx N seen d) ds

theorem ring_seen {k : Nat} {seen : List α} {x : α} (h : x ∈ seen) : ring nx k seen x = [] := by
  cases k with
  | zero => rfl
  | succ k => rw [ring, if_pos h]
theorem ring_new {k : Nat} {seen : List α} {x : α} (h : x ∉ seen) : ring nx (k + 1) seen x = x :: ring nx k (seen ++ [x]) (nx x) := by rw [ring, if_neg h]
theorem rings_nil (N : Nat) (seen : List α) : rings nx N seen [] = [] := by rw [rings]
theorem rings_seen {N : Nat} {seen ds : List α} {d : α} (h : d ∈ seen) : rings nx N seen (d :: ds) = rings nx N seen ds := by rw [rings, if_pos h]
theorem rings_new {N : Nat} {seen ds : List α} {d : α} (h : d ∉ seen) : rings nx N seen (d :: ds) = ring nx N seen d :: rings nx N (seen ++ ring nx N seen d) ds := by rw [rings, if_neg h]

/- a duplicate-free list within another one is no longer -/
theorem nodup_le : ∀ {l m : List α}, l.Nodup → (∀ x ∈ l, x ∈ m) → l.length ≤ m.length
  | [], _, _, _ => Nat.zero_le _
  | a :: l, m, hn, hs => by
    have ha : a ∈ m := hs a (by simp)
    rw [List.nodup_cons] at hn
    have h1 : l.length ≤ (m.erase a).length := nodup_le hn.2 fun x hx => by
      have hne : x ≠ a := fun e => hn.1 (e ▸ hx)
      exact (List.mem_erase_of_ne hne).2 (hs x (by simp [hx]))
    rw [List.length_erase_of_mem ha] at h1
    have h2 : 0 < m.length := List.length_pos_of_mem ha
    simp only [List.length_cons]; omega
theorem fuel {l m : List α} {x : α} (hn : l.Nodup) (hs : ∀ y ∈ l, y ∈ m) (hx : x ∉ l) (hm : x ∈ m) : l.length + 1 ≤ m.length := by
  have := nodup_le (l := x :: l) (m := m) (List.nodup_cons.2 ⟨hx, hn⟩) (fun y hy => by
    rcases List.mem_cons.1 hy with rfl | h
    · exact hm
    · exact hs y h)
  simpa using this
omit [DecidableEq α] in
theorem nodup_snoc {l : List α} {x : α} (hn : l.Nodup) (hx : x ∉ l) : (l ++ [x]).Nodup := by
  rw [List.nodup_append]
  exact ⟨hn, by simp, fun a ha b hb => by
    rw [List.mem_singleton] at hb; subst hb; exact fun e => hx (e ▸ ha)⟩

/- what a ring is: it adds what is new, no one twice -/
theorem ring_nodup : ∀ (k : Nat) {seen : List α} (x : α), seen.Nodup → (seen ++ ring nx k seen x).Nodup
  | 0, seen, x, h => by rw [ring]; simpa using h
  | k + 1, seen, x, h => by
    by_cases c : x ∈ seen
    · rw [ring_seen nx c]; simpa using h
    · rw [ring_new nx c]
      have := ring_nodup k (seen := seen ++ [x]) (nx x) (nodup_snoc h c)
      simpa using this
theorem ring_sub {all : List α} (hall : ∀ x ∈ all, nx x ∈ all) : ∀ (k : Nat) (seen : List α) {x : α}, x ∈ all → ∀ y ∈ ring nx k seen x, y ∈ all
  | 0, seen, x, h, y, hy => by rw [ring] at hy; cases hy
  | k + 1, seen, x, h, y, hy => by
    by_cases c : x ∈ seen
    · rw [ring_seen nx c] at hy; cases hy
    · rw [ring_new nx c] at hy
      rcases List.mem_cons.1 hy with rfl | hy
      · exact h
      · exact ring_sub hall k _ (hall x h) y hy
theorem ring_head {k : Nat} {seen : List α} {x : α} (h : x ∉ seen) (hk : 0 < k) : x ∈ ring nx k seen x := by
  obtain ⟨j, rfl⟩ : ∃ j, k = j + 1 := ⟨k - 1, by omega⟩
  rw [ring_new nx h]; simp
theorem rings_nodup (N : Nat) : ∀ (ds : List α) {seen : List α}, seen.Nodup → (seen ++ (rings nx N seen ds).flatten).Nodup
  | [], seen, h => by rw [rings]; simpa using h
  | d :: ds, seen, h => by
    by_cases c : d ∈ seen
    · rw [rings_seen nx c]; exact rings_nodup N ds h
    · rw [rings_new nx c, List.flatten_cons, ← List.append_assoc]
      exact rings_nodup N ds (ring_nodup nx N d h)
theorem rings_sub {all : List α} (hall : ∀ x ∈ all, nx x ∈ all) (N : Nat) : ∀ (ds : List α) (seen : List α), (∀ d ∈ ds, d ∈ all) → ∀ y ∈ (rings nx N seen ds).flatten, y ∈ all
  | [], seen, _, y, hy => by rw [rings] at hy; cases hy
  | d :: ds, seen, h, y, hy => by
    by_cases c : d ∈ seen
    · rw [rings_seen nx c] at hy
      exact rings_sub hall N ds seen (fun x hx => h x (by simp [hx])) y hy
    · rw [rings_new nx c, List.flatten_cons, List.mem_append] at hy
      rcases hy with hy | hy
      · exact ring_sub nx hall N seen (h d (by simp)) y hy
      · exact rings_sub hall N ds _ (fun x hx => h x (by simp [hx])) y hy
theorem rings_cover {N : Nat} (hN : 0 < N) : ∀ (ds : List α) (seen : List α) {x : α}, (x ∈ seen ∨ x ∈ ds) → x ∈ seen ++ (rings nx N seen ds).flatten
  | [], seen, x, h => by
    rw [rings]
    rcases h with h | h
    · simp [h]
    · cases h
  | d :: ds, seen, x, h => by
    by_cases c : d ∈ seen
    · rw [rings_seen nx c]
      refine rings_cover hN ds seen ?_
      rcases h with h | h
      · exact .inl h
      · rcases List.mem_cons.1 h with rfl | h
        · exact .inl c
        · exact .inr h
    · rw [rings_new nx c, List.flatten_cons, ← List.append_assoc]
      refine rings_cover hN ds _ ?_
      rcases h with h | h
      · exact .inl (by simp [h])
      · rcases List.mem_cons.1 h with rfl | h
        · exact .inl (List.mem_append.2 (.inr (ring_head nx c hN)))
        · exact .inr h
theorem rings_len (N : Nat) : ∀ (ds seen : List α), (rings nx N seen ds).length ≤ ds.length
  | [], seen => by rw [rings]; exact Nat.le_refl _
  | d :: ds, seen => by
    by_cases c : d ∈ seen
    · rw [rings_seen nx c]; have := rings_len N ds seen; simp only [List.length_cons]; omega
    · rw [rings_new nx c]; have := rings_len N ds (seen ++ ring nx N seen d); simp only [List.length_cons]; omega
/- the rings of all: each once -/
theorem rings_perm {all : List α} (hn : all.Nodup) (hall : ∀ x ∈ all, nx x ∈ all) {N : Nat} (hN : 0 < N) : (rings nx N [] all).flatten.Perm all := by
  have h1 := rings_nodup nx N all (seen := []) (by simp)
  have h2 := rings_sub nx hall N all [] (fun d h => h)
  have h3 := fun x hx => rings_cover nx hN all [] (x := x) (.inr hx)
  rw [List.nil_append] at h1
  refine (List.perm_ext_iff_of_nodup h1 hn).2 fun x => ⟨h2 x, fun hx => ?_⟩
  have := h3 x hx
  rwa [List.nil_append] at this
/- none of them is empty -/
theorem rings_ne {N : Nat} (hN : 0 < N) : ∀ (ds : List α) (seen : List α), ∀ r ∈ rings nx N seen ds, r ≠ []
  | [], seen, r, h => by rw [rings] at h; cases h
  | d :: ds, seen, r, h => by
    by_cases c : d ∈ seen
    · rw [rings_seen nx c] at h
      exact rings_ne hN ds seen r h
    · rw [rings_new nx c] at h
      rcases List.mem_cons.1 h with rfl | h
      · exact List.ne_nil_of_mem (ring_head nx c hN)
      · exact rings_ne hN ds _ r h
end
end Go.Proofs.Ytgjmjbgicfkojaa.Kn
