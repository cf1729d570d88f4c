/- Plain mathematics: a list of terms that is gone through in any order. -/
import Derived.Test.YtjgmlicmjpgfcaaDoorMPoly
namespace Pl

theorem co_le (l : List T) (e : Int) : -(size l : Int) ≤ co l e ∧ co l e ≤ size l := by
  have := size_out e l
  omega
theorem co_le' {l : List T} {S : Nat} (h : size l ≤ S) (e : Int) : -(S : Int) ≤ co l e ∧ co l e ≤ S := by
  have := co_le l e
  omega
/- distinct exponents, each with the whole coefficient -/
theorem size_part : ∀ {d l : List T}, d.Pairwise (fun s t => s.1 ≠ t.1) → (∀ t ∈ d, t.2 = co l t.1) → size d ≤ size l
  | [], _, _, _ => Nat.zero_le _
  | t :: d, l, hp, hc => by
    have h1 := size_out t.1 l
    have h2 := hc t (by simp)
    rw [List.pairwise_cons] at hp
    have h3 := size_part (l := out t.1 l) hp.2 fun u hu => by
      rw [co_out, if_neg fun x => hp.1 u hu x.symm]
      exact hc u (by simp [hu])
    rw [size_cons]
    omega

/- part of a list, what is left being told by a test -/
structure Part (l : List T) (left : Int → Bool) (done : List T) : Prop where
  dist : done.Pairwise (fun s t => s.1 ≠ t.1)
  coef : ∀ t ∈ done, t.2 = co l t.1
  gone : ∀ t ∈ done, left t.1 = false
  all : ∀ e, left e = false → co done e = co l e
  exps : ∀ t ∈ done, ∃ u ∈ l, u.1 = t.1
theorem Part.start {l : List T} {left : Int → Bool} (h : ∀ e, left e = false → co l e = 0) : Part l left [] :=
  ⟨List.Pairwise.nil, by simp, by simp, fun e he => by rw [co_nil, h e he], by simp⟩
theorem Part.step {l done : List T} {left left' : Int → Bool} {x c : Int} (h : Part l left done) (hx : left x = true) (hl : ∀ e, left' e = (left e && !decide (e = x))) (hc : c = co l x) (hk : ∃ u ∈ l, u.1 = x) : Part l left' (done ++ [(x, c)]) := by
  have hne : ∀ t ∈ done, t.1 ≠ x := fun t ht e => by
    have := h.gone t ht
    rw [e, hx] at this
    cases this
  refine ⟨?_, fun t ht => ?_, fun t ht => ?_, fun e he => ?_, fun t ht => ?_⟩
  · rw [List.pairwise_append]
    exact ⟨h.dist, List.pairwise_singleton _ _, fun s hs t ht => by rw [List.mem_singleton] at ht; subst ht; exact hne s hs⟩
  · rcases List.mem_append.1 ht with ht | ht
    · exact h.coef t ht
    · rw [List.mem_singleton] at ht; subst ht; exact hc
  · rw [hl]
    rcases List.mem_append.1 ht with ht | ht
    · rw [h.gone t ht]; rfl
    · rw [List.mem_singleton] at ht; subst ht; simp
  · rw [hl] at he
    rw [co_app, co_cons, co_nil]
    by_cases hex : e = x
    · subst hex
      have : co done e = 0 := co_none hne
      rw [this, if_pos rfl, hc]; omega
    · rw [if_neg fun z => hex z.symm, h.all e (by simpa [hex] using he)]; omega
  · rcases List.mem_append.1 ht with ht | ht
    · exact h.exps t ht
    · rw [List.mem_singleton] at ht; subst ht; exact hk
theorem Part.size_le {l done : List T} {left : Int → Bool} (h : Part l left done) : size done ≤ size l := size_part h.dist h.coef
theorem Part.all' {l done : List T} {left : Int → Bool} (h : Part l left done) (hl : ∀ e, left e = false) (e : Int) : co done e = co l e := h.all e (hl e)

theorem mul_app (a b c : List T) : mul (a ++ b) c = mul a c ++ mul b c := by simp [mul]
theorem mul_one_snoc (x c : Int) (d : List T) (f g : Int) : mul [(x, c)] (d ++ [(f, g)]) = mul [(x, c)] d ++ [(x + f, c * g)] := by simp [mul]
theorem mul_exps {a a' b b' : List T} (ha : ∀ t ∈ a, ∃ u ∈ a', u.1 = t.1) (hb : ∀ t ∈ b, ∃ u ∈ b', u.1 = t.1) : ∀ t ∈ mul a b, ∃ u ∈ mul a' b', u.1 = t.1 := by
  intro t ht
  simp only [mul, List.mem_flatMap, List.mem_map] at ht ⊢
  obtain ⟨s, hs, u, hu, rfl⟩ := ht
  obtain ⟨s', hs', e1⟩ := ha s hs
  obtain ⟨u', hu', e2⟩ := hb u hu
  exact ⟨_, ⟨s', hs', u', hu', rfl⟩, by show s'.1 + u'.1 = s.1 + u.1; omega⟩
theorem app_exps {a a' b b' : List T} (ha : ∀ t ∈ a, ∃ u ∈ a', u.1 = t.1) (hb : ∀ t ∈ b, ∃ u ∈ b', u.1 = t.1) : ∀ t ∈ a ++ b, ∃ u ∈ a' ++ b', u.1 = t.1 := by
  intro t ht
  rcases List.mem_append.1 ht with ht | ht
  · obtain ⟨u, hu, e⟩ := ha t ht
    exact ⟨u, List.mem_append.2 (.inl hu), e⟩
  · obtain ⟨u, hu, e⟩ := hb t ht
    exact ⟨u, List.mem_append.2 (.inr hu), e⟩
theorem same_exps (a : List T) : ∀ t ∈ a, ∃ u ∈ a, u.1 = t.1 := fun t ht => ⟨t, ht, rfl⟩
/- the row under way: its sizes -/
theorem row_size {la lb done d2 : List T} {x c : Int} {f g : Int} (h1 : size (done ++ [(x, c)]) ≤ size la) (h2 : size (d2 ++ [(f, g)]) ≤ size lb) : size (mul done lb ++ mul [(x, c)] (d2 ++ [(f, g)])) ≤ size la * size lb := by
  rw [size_app, size_mul, size_mul]
  rw [size_app] at h1
  have e1 : size done * size lb + size [(x, c)] * size (d2 ++ [(f, g)]) ≤ size done * size lb + size [(x, c)] * size lb := Nat.add_le_add_left (Nat.mul_le_mul_left _ h2) _
  have e2 : size done * size lb + size [(x, c)] * size lb = (size done + size [(x, c)]) * size lb := by rw [Nat.add_mul]
  have e3 : (size done + size [(x, c)]) * size lb ≤ size la * size lb := Nat.mul_le_mul_right _ h1
  omega
theorem row_end {lb done d2 : List T} {x c : Int} (h : ∀ e, co d2 e = co lb e) (e : Int) : co (mul done lb ++ mul [(x, c)] d2) e = co (mul (done ++ [(x, c)]) lb) e := by
  rw [mul_app, co_app, co_app]
  have : co (mul [(x, c)] d2) e = co (mul [(x, c)] lb) e := mul_congr (fun _ => rfl) h _
  rw [this]
theorem mul_size_le {S S' : Nat} {a b : List T} (ha : size a ≤ S) (hb : size b ≤ S') : size (mul a b) ≤ S * S' := by
  rw [size_mul]; exact Nat.mul_le_mul ha hb
end Pl
