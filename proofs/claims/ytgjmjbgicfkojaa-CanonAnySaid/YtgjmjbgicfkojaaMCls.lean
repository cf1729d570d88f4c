/- Classes of a relation on the numbers below N, counted by their least members; two of them made one; what turns two of a permutation's values does to its orbits: plain mathematics. -/
import Derived.Test.YtgjmjbgicfkojaaMRing
namespace Go.Proofs.Ytgjmjbgicfkojaa.Kn

/- a relation's truth as a Bool -/
noncomputable def tr (p : Prop) : Bool := @decide p (Classical.propDecidable p)
theorem tr_iff {p : Prop} : tr p = true ↔ p := @decide_eq_true_iff p (Classical.propDecidable p)
theorem tr_congr {p q : Prop} (h : p ↔ q) : tr p = tr q := by
  rw [Bool.eq_iff_iff, tr_iff, tr_iff]; exact h
theorem tr_false {p : Prop} : tr p = false ↔ ¬ p := by
  constructor
  · intro h k; rw [tr_iff.2 k] at h; cases h
  · intro h; cases c : tr p with
    | false => rfl
    | true => exact absurd (tr_iff.1 c) h
def Least (R : Nat → Nat → Prop) (d : Nat) : Prop := ∀ e, e < d → ¬ R e d
noncomputable def cl (N : Nat) (R : Nat → Nat → Prop) : Nat := (List.range N).countP fun d => tr (Least R d)
theorem cl_congr {N : Nat} {R R' : Nat → Nat → Prop} (h : ∀ x y, R x y ↔ R' x y) : cl N R = cl N R' := by
  have : R = R' := funext fun x => funext fun y => propext (h x y)
  rw [this]
theorem countP_congr' {l : List Nat} {p q : Nat → Bool} (h : ∀ x ∈ l, p x = q x) : l.countP p = l.countP q := by
  induction l with
  | nil => rfl
  | cons a l ih =>
    rw [List.countP_cons, List.countP_cons, ih fun x hx => h x (by simp [hx]), h a (by simp)]
theorem countP_but : ∀ {l : List Nat}, l.Nodup → ∀ {p q : Nat → Bool} {x : Nat}, x ∈ l → p x = true → (∀ d ∈ l, q d = (p d && decide (d ≠ x))) → l.countP q + 1 = l.countP p
  | [], _, _, _, _, hx, _, _ => by cases hx
  | a :: l, hn, p, q, x, hx, hp, hq => by
    rw [List.nodup_cons] at hn
    rw [List.countP_cons, List.countP_cons]
    have ha := hq a (by simp)
    by_cases c : a = x
    · subst c
      have h1 : l.countP q = l.countP p := countP_congr' fun d hd => by
        rw [hq d (by simp [hd])]
        have : d ≠ a := fun e => hn.1 (e ▸ hd)
        simp [this]
      rw [h1, ha, hp]; simp
    · have h1 := countP_but hn.2 (p := p) (q := q) (x := x) ((List.mem_cons.1 hx).resolve_left fun e => c e.symm) hp fun d hd => hq d (by simp [hd])
      rw [ha, decide_eq_true c, Bool.and_true]
      omega
/- the least of a class -/
theorem least_of {R : Nat → Nat → Prop} (hR : Equivalence R) (a : Nat) : ∃ r, r ≤ a ∧ R r a ∧ Least R r := by
  induction a using Nat.strongRecOn with
  | ind a ih =>
    by_cases c : ∃ e, e < a ∧ R e a
    · obtain ⟨e, he, hr⟩ := c
      obtain ⟨r, h1, h2, h3⟩ := ih e he
      exact ⟨r, by omega, hR.trans h2 hr, h3⟩
    · exact ⟨a, Nat.le_refl _, hR.refl a, fun e he hr => c ⟨e, he, hr⟩⟩
theorem least_eq {R : Nat → Nat → Prop} (hR : Equivalence R) {r s : Nat} (h : Least R r) (k : Least R s) (e : R r s) : r = s := by
  rcases Nat.lt_trichotomy r s with c | c | c
  · exact absurd e (k r c)
  · exact c
  · exact absurd (hR.symm e) (h s c)
/- the classes of a and b made one -/
def mrg (R : Nat → Nat → Prop) (a b x y : Nat) : Prop := R x y ∨ (R x a ∧ R b y) ∨ (R x b ∧ R a y)
theorem mrg_equiv {R : Nat → Nat → Prop} (hR : Equivalence R) (a b : Nat) : Equivalence (mrg R a b) := by
  refine ⟨fun x => .inl (hR.refl x), fun {x y} h => ?_, fun {x y z} h k => ?_⟩
  · rcases h with h | ⟨h1, h2⟩ | ⟨h1, h2⟩
    · exact .inl (hR.symm h)
    · exact .inr (.inr ⟨hR.symm h2, hR.symm h1⟩)
    · exact .inr (.inl ⟨hR.symm h2, hR.symm h1⟩)
  · rcases h with h | ⟨h1, h2⟩ | ⟨h1, h2⟩ <;> rcases k with k | ⟨k1, k2⟩ | ⟨k1, k2⟩
    · exact .inl (hR.trans h k)
    · exact .inr (.inl ⟨hR.trans h k1, k2⟩)
    · exact .inr (.inr ⟨hR.trans h k1, k2⟩)
    · exact .inr (.inl ⟨h1, hR.trans h2 k⟩)
    · exact .inr (.inl ⟨h1, k2⟩)
    · exact .inl (hR.trans h1 k2)
    · exact .inr (.inr ⟨h1, hR.trans h2 k⟩)
    · exact .inl (hR.trans h1 k2)
    · exact .inr (.inr ⟨h1, k2⟩)
theorem mrg_swap {R : Nat → Nat → Prop} (a b x y : Nat) : mrg R a b x y ↔ mrg R b a x y := by
  unfold mrg
  constructor <;> rintro (h | h | h)
  · exact .inl h
  · exact .inr (.inr h)
  · exact .inr (.inl h)
  · exact .inl h
  · exact .inr (.inr h)
  · exact .inr (.inl h)
theorem mrg_same {R : Nat → Nat → Prop} (hR : Equivalence R) {a b : Nat} (h : R a b) (x y : Nat) : mrg R a b x y ↔ R x y := by
  constructor
  · rintro (k | ⟨k1, k2⟩ | ⟨k1, k2⟩)
    · exact k
    · exact hR.trans k1 (hR.trans h k2)
    · exact hR.trans k1 (hR.trans (hR.symm h) k2)
  · exact .inl
theorem cl_mrg_lt {N : Nat} {R : Nat → Nat → Prop} (hR : Equivalence R) {a b ra rb : Nat} (hb : rb < N) (ha1 : R ra a) (ha2 : Least R ra) (hb1 : R rb b) (hb2 : Least R rb) (hlt : ra < rb) :
    cl N (mrg R a b) + 1 = cl N R := by
  unfold cl
  refine countP_but List.nodup_range (x := rb) (List.mem_range.2 hb) (tr_iff.2 hb2) fun d _ => ?_
  rw [Bool.eq_iff_iff, tr_iff, Bool.and_eq_true, tr_iff, decide_eq_true_eq]
  constructor
  · intro h
    refine ⟨fun e he hr => h e he (.inl hr), ?_⟩
    rintro rfl
    exact h ra hlt (.inr (.inl ⟨ha1, hR.symm hb1⟩))
  · rintro ⟨h, hne⟩ e he hm
    rcases hm with hm | ⟨h1, h2⟩ | ⟨h1, h2⟩
    · exact h e he hm
    · exact hne (least_eq hR h hb2 (hR.trans (hR.symm h2) (hR.symm hb1)))
    · have h3 : d = ra := least_eq hR h ha2 (hR.trans (hR.symm h2) (hR.symm ha1))
      subst h3
      exact hb2 e (by omega) (hR.trans h1 (hR.symm hb1))
theorem cl_mrg {N : Nat} {R : Nat → Nat → Prop} (hR : Equivalence R) {a b : Nat} (ha : a < N) (hb : b < N) (h : ¬ R a b) : cl N (mrg R a b) + 1 = cl N R := by
  obtain ⟨ra, a1, a2, a3⟩ := least_of hR a
  obtain ⟨rb, b1, b2, b3⟩ := least_of hR b
  rcases Nat.lt_trichotomy ra rb with c | c | c
  · exact cl_mrg_lt hR (by omega) a2 a3 b2 b3 c
  · subst c
    exact absurd (hR.trans (hR.symm a2) b2) h
  · rw [cl_congr (mrg_swap a b)]
    exact cl_mrg_lt hR (by omega) b2 b3 a2 a3 c

/- orbits -/
def it {α : Type} (f : α → α) : Nat → α → α
  | 0, x => x
  | n + 1, x => f (it f n x)
theorem it_add {α : Type} (f : α → α) (n : Nat) (x : α) : ∀ m, it f (m + n) x = it f m (it f n x)
  | 0 => by rw [Nat.zero_add]; rfl
  | m + 1 => by rw [Nat.succ_add, it, it, it_add f n x m]
def Orb (f : Nat → Nat) (x y : Nat) : Prop := ∃ n, it f n x = y
structure Pm (N : Nat) (f : Nat → Nat) : Prop where
  lt : ∀ x, x < N → f x < N
  out : ∀ x, N ≤ x → f x = x
  inj : ∀ x y, f x = f y → x = y
section
variable {N : Nat} {f : Nat → Nat}
theorem Pm.it_lt (h : Pm N f) {x : Nat} (hx : x < N) : ∀ n, it f n x < N
  | 0 => hx
  | n + 1 => h.lt _ (h.it_lt hx n)
theorem Pm.it_out (h : Pm N f) {x : Nat} (hx : N ≤ x) : ∀ n, it f n x = x
  | 0 => rfl
  | n + 1 => by rw [it, h.it_out hx n, h.out x hx]
theorem Pm.it_inj (h : Pm N f) {x y : Nat} : ∀ {n : Nat}, it f n x = it f n y → x = y
  | 0, e => e
  | n + 1, e => h.it_inj (h.inj _ _ e)
theorem not_nodup_map {g : Nat → Nat} : ∀ {l : List Nat}, l.Nodup → ¬ (l.map g).Nodup → ∃ i ∈ l, ∃ j ∈ l, i ≠ j ∧ g i = g j
  | [], _, h => absurd (by simp) h
  | a :: l, hn, h => by
    rw [List.nodup_cons] at hn
    by_cases c : g a ∈ l.map g
    · obtain ⟨j, hj, e⟩ := List.mem_map.1 c
      exact ⟨a, by simp, j, by simp [hj], fun e' => hn.1 (e' ▸ hj), e.symm⟩
    · have h2 : ¬ (l.map g).Nodup := fun k => h (by rw [List.map_cons, List.nodup_cons]; exact ⟨c, k⟩)
      obtain ⟨i, hi, j, hj, h3⟩ := not_nodup_map hn.2 h2
      exact ⟨i, by simp [hi], j, by simp [hj], h3⟩
theorem Pm.cycle (h : Pm N f) (x : Nat) : ∃ n, 0 < n ∧ it f n x = x := by
  by_cases hx : x < N
  · have : ¬ ((List.range (N + 1)).map fun n => it f n x).Nodup := fun hn => by
      have := nodup_le hn (m := List.range N) fun y hy => by
        obtain ⟨n, _, rfl⟩ := List.mem_map.1 hy
        exact List.mem_range.2 (h.it_lt hx n)
      simp at this
      omega
    obtain ⟨i, _, j, _, hne, e⟩ := not_nodup_map List.nodup_range this
    have key : ∀ i j, i < j → it f i x = it f j x → ∃ n, 0 < n ∧ it f n x = x := fun i j hij e => by
      refine ⟨j - i, by omega, ?_⟩
      have h1 := it_add f (j - i) x i
      rw [show i + (j - i) = j by omega, ← e] at h1
      exact (h.it_inj h1).symm
    rcases Nat.lt_or_ge i j with c | c
    · exact key i j c e
    · exact key j i (by omega) e.symm
  · exact ⟨1, by omega, h.it_out (by omega) 1⟩
theorem Orb.refl (f : Nat → Nat) (x : Nat) : Orb f x x := ⟨0, rfl⟩
theorem Orb.trans {x y z : Nat} : Orb f x y → Orb f y z → Orb f x z := by
  rintro ⟨m, rfl⟩ ⟨n, rfl⟩
  exact ⟨n + m, it_add f m x n⟩
theorem Orb.one (f : Nat → Nat) (x : Nat) : Orb f x (f x) := ⟨1, rfl⟩
theorem Pm.back (h : Pm N f) (x : Nat) : Orb f (f x) x := by
  obtain ⟨n, hn, e⟩ := h.cycle x
  obtain ⟨m, rfl⟩ : ∃ m, n = m + 1 := ⟨n - 1, by omega⟩
  refine ⟨m, ?_⟩
  have := it_add f 1 x m
  rw [e] at this
  exact this.symm
theorem Pm.symm (h : Pm N f) {x y : Nat} : Orb f x y → Orb f y x := by
  rintro ⟨n, rfl⟩
  induction n with
  | zero => exact Orb.refl f x
  | succ n ih => exact (h.back _).trans ih
theorem Pm.equiv (h : Pm N f) : Equivalence (Orb f) := ⟨Orb.refl f, h.symm, Orb.trans⟩
/- what goes along orbits -/
theorem Orb.ind {P : Nat → Prop} (hP : ∀ x, P x → P (f x)) {x y : Nat} (hx : P x) : Orb f x y → P y := by
  rintro ⟨n, rfl⟩
  induction n with
  | zero => exact hx
  | succ n ih => exact hP _ ih
theorem Orb.lt (h : Pm N f) {x y : Nat} (hx : x < N) (k : Orb f x y) : y < N := k.ind (P := fun y => y < N) h.lt hx
end

/- two values turned -/
def swp (a b x : Nat) : Nat := if x = a then b else if x = b then a else x
theorem swp_a (a b : Nat) : swp a b a = b := if_pos rfl
theorem swp_b (a b : Nat) : swp a b b = a := by
  unfold swp; split
  · next h => exact h
  · exact if_pos rfl
theorem swp_ne {a b x : Nat} (h : x ≠ a) (k : x ≠ b) : swp a b x = x := by unfold swp; rw [if_neg h, if_neg k]
theorem swp_swp (a b x : Nat) : swp a b (swp a b x) = x := by
  by_cases h : x = a
  · subst h; rw [swp_a, swp_b]
  · by_cases k : x = b
    · subst k; rw [swp_b, swp_a]
    · rw [swp_ne h k, swp_ne h k]
theorem swp_comm (a b x : Nat) : swp a b x = swp b a x := by
  by_cases h : x = a
  · subst h; rw [swp_a, swp_b]
  · by_cases k : x = b
    · subst k; rw [swp_b, swp_a]
    · rw [swp_ne h k, swp_ne k h]
theorem Pm.swp {N : Nat} {f : Nat → Nat} (h : Pm N f) {a b : Nat} (ha : a < N) (hb : b < N) : Pm N (fun x => swp a b (f x)) := by
  refine ⟨fun x hx => ?_, fun x hx => ?_, fun x y e => ?_⟩
  · have := h.lt x hx
    show Kn.swp a b (f x) < N
    unfold Kn.swp; split
    · exact hb
    · split
      · exact ha
      · exact this
  · show Kn.swp a b (f x) = x
    rw [h.out x hx, swp_ne (by omega) (by omega)]
  · refine h.inj x y ?_
    have e' : Kn.swp a b (f x) = Kn.swp a b (f y) := e
    rw [← swp_swp a b (f x), e', swp_swp]
section
variable {N : Nat} {f : Nat → Nat} {a b : Nat}
theorem orb_step (h : Pm N f) (x : Nat) : mrg (Orb f) a b x (swp a b (f x)) := by
  by_cases c : f x = a
  · rw [c, swp_a]; exact .inr (.inl ⟨c ▸ Orb.one f x, Orb.refl f b⟩)
  · by_cases d : f x = b
    · rw [d, swp_b]; exact .inr (.inr ⟨d ▸ Orb.one f x, Orb.refl f a⟩)
    · rw [swp_ne c d]; exact .inl (Orb.one f x)
theorem orb_sub (h : Pm N f) {x y : Nat} (k : Orb (fun x => swp a b (f x)) x y) : mrg (Orb f) a b x y :=
  k.ind (P := fun y => mrg (Orb f) a b x y) (fun z hz => (mrg_equiv h.equiv a b).trans hz (orb_step h z)) (.inl (Orb.refl f x))
theorem swp_twice (f : Nat → Nat) (a b : Nat) : (fun x => swp a b ((fun x => swp a b (f x)) x)) = f := funext fun x => swp_swp a b (f x)
/- apart: they come together -/
theorem orb_join (h : Pm N f) (k : ¬ Orb f a b) : Orb (fun x => swp a b (f x)) a b := by
  obtain ⟨n, hn, e⟩ := h.cycle a
  have hex : ∃ n, 0 < n ∧ it f n a = a ∧ ∀ m, 0 < m → m < n → it f m a ≠ a := by
    clear k
    induction n using Nat.strongRecOn with
    | ind n ih =>
      by_cases c : ∃ m, 0 < m ∧ m < n ∧ it f m a = a
      · obtain ⟨m, h1, h2, h3⟩ := c
        exact ih m h2 h1 h3
      · exact ⟨n, hn, e, fun m h1 h2 h3 => c ⟨m, h1, h2, h3⟩⟩
  obtain ⟨n, hn, e, hmin⟩ := hex
  have key : ∀ m, m < n → it (fun x => swp a b (f x)) m a = it f m a := by
    intro m
    induction m with
    | zero => intro _; rfl
    | succ m ih =>
      intro hm
      rw [it, ih (by omega)]
      show swp a b (it f (m + 1) a) = _
      exact swp_ne (hmin _ (by omega) hm) fun e' => k ⟨_, e'⟩
  refine ⟨n, ?_⟩
  obtain ⟨m, rfl⟩ : ∃ m, n = m + 1 := ⟨n - 1, by omega⟩
  rw [it, key m (by omega)]
  show swp a b (it f (m + 1) a) = b
  rw [e, swp_a]
theorem orb_mrg (h : Pm N f) (ha : a < N) (hb : b < N) (k : ¬ Orb f a b) (x y : Nat) : Orb (fun x => swp a b (f x)) x y ↔ mrg (Orb f) a b x y := by
  have h' := h.swp ha hb
  have hab := orb_join h k
  refine ⟨orb_sub h, fun hm => ?_⟩
  have hsub : ∀ x y, Orb f x y → Orb (fun x => swp a b (f x)) x y := fun x y hxy => by
    have h1 : Orb (fun x => swp a b ((fun x => swp a b (f x)) x)) x y := by rw [swp_twice]; exact hxy
    exact (mrg_same h'.equiv hab x y).1 (orb_sub h' h1)
  rcases hm with hm | ⟨h1, h2⟩ | ⟨h1, h2⟩
  · exact hsub x y hm
  · exact (hsub _ _ h1).trans (hab.trans (hsub _ _ h2))
  · exact (hsub _ _ h1).trans ((h'.symm hab).trans (hsub _ _ h2))
/- together: they part -/
theorem orb_part (h : Pm N f) (hne : a ≠ b) (k : Orb f a b) : ¬ Orb (fun x => swp a b (f x)) a b := by
  have hex : ∃ n, it f n a = b ∧ ∀ m, m < n → it f m a ≠ b := by
    obtain ⟨n, e⟩ := k
    induction n using Nat.strongRecOn with
    | ind n ih =>
      by_cases c : ∃ m, m < n ∧ it f m a = b
      · obtain ⟨m, h2, h3⟩ := c
        exact ih m h2 h3
      · exact ⟨n, e, fun m h2 h3 => c ⟨m, h2, h3⟩⟩
  obtain ⟨n, e, hmin⟩ := hex
  have hn : 0 < n := by
    rcases Nat.eq_zero_or_pos n with c | c
    · subst c; exact absurd e hne
    · exact c
  have hback : ∀ m, 0 < m → m < n → it f m a ≠ a := fun m h1 h2 h3 => by
    have h4 := it_add f m a (n - m)
    rw [h3, show n - m + m = n by omega, e] at h4
    exact hmin (n - m) (by omega) h4.symm
  intro ho
  have hin : ∃ m, m < n ∧ b = it f m a := by
    refine ho.ind (P := fun y => ∃ m, m < n ∧ y = it f m a) ?_ ⟨0, hn, rfl⟩
    rintro y ⟨m, hm, rfl⟩
    by_cases c : m + 1 < n
    · refine ⟨m + 1, c, ?_⟩
      show swp a b (it f (m + 1) a) = _
      exact swp_ne (hback _ (by omega) c) (hmin _ c)
    · obtain rfl : n = m + 1 := by omega
      refine ⟨0, hn, ?_⟩
      show swp a b (it f (m + 1) a) = a
      rw [e, swp_b]
  obtain ⟨m, hm, e'⟩ := hin
  exact hmin m hm e'.symm
theorem cl_join (h : Pm N f) (ha : a < N) (hb : b < N) (k : ¬ Orb f a b) : cl N (Orb (fun x => swp a b (f x))) + 1 = cl N (Orb f) := by
  rw [cl_congr (orb_mrg h ha hb k)]
  exact cl_mrg h.equiv ha hb k
theorem cl_part (h : Pm N f) (ha : a < N) (hb : b < N) (hne : a ≠ b) (k : Orb f a b) : cl N (Orb f) + 1 = cl N (Orb (fun x => swp a b (f x))) := by
  have := cl_join (h.swp ha hb) ha hb (orb_part h hne k)
  rwa [swp_twice] at this
end
end Go.Proofs.Ytgjmjbgicfkojaa.Kn
