/- Plain mathematics: polynomials as lists of terms; what a list tells is its sums. -/
namespace Pl

abbrev T := Int × Int
/- the sum of coefficients times what a test tells of exponents -/
def tot (l : List T) (f : Int → Int) : Int := (l.map fun t => t.2 * f t.1).sum
theorem tot_nil (f : Int → Int) : tot [] f = 0 := rfl
theorem tot_cons (t : T) (l : List T) (f : Int → Int) : tot (t :: l) f = t.2 * f t.1 + tot l f := by simp [tot]
theorem tot_app (l m : List T) (f : Int → Int) : tot (l ++ m) f = tot l f + tot m f := by simp [tot]
/- the coefficient at e -/
def at1 (e : Int) : Int → Int := fun x => if x = e then 1 else 0
def co (l : List T) (e : Int) : Int := tot l (at1 e)
theorem co_cons (t : T) (l : List T) (e : Int) : co (t :: l) e = (if t.1 = e then t.2 else 0) + co l e := by
  simp only [co, tot_cons, at1]
  split <;> simp
theorem co_nil (e : Int) : co [] e = 0 := rfl
theorem co_app (l m : List T) (e : Int) : co (l ++ m) e = co l e + co m e := tot_app _ _ _

theorem tot_add (l : List T) (f g : Int → Int) : tot l (fun x => f x + g x) = tot l f + tot l g := by
  induction l with
  | nil => rfl
  | cons t l ih => rw [tot_cons, tot_cons, tot_cons, ih, Int.mul_add]; omega
theorem tot_mul (l : List T) (k : Int) (f : Int → Int) : tot l (fun x => k * f x) = k * tot l f := by
  induction l with
  | nil => simp [tot_nil]
  | cons t l ih => rw [tot_cons, tot_cons, ih, Int.mul_add, Int.mul_left_comm]
theorem tot_zero (l : List T) : tot l (fun _ => 0) = 0 := by
  induction l with
  | nil => rfl
  | cons t l ih => rw [tot_cons, ih]; simp

/- all terms of one exponent taken out -/
def out (e : Int) (l : List T) : List T := l.filter fun t => t.1 != e
theorem tot_out (e : Int) (f : Int → Int) : ∀ l : List T, tot l f = co l e * f e + tot (out e l) f
  | [] => by simp [tot_nil, co_nil, out]
  | t :: l => by
    have ih := tot_out e f l
    rw [tot_cons, co_cons]
    by_cases h : t.1 = e
    · have : out e (t :: l) = out e l := by simp [out, h]
      rw [this, if_pos h, ih, Int.add_mul, h]; omega
    · have : out e (t :: l) = t :: out e l := by simp [out, h]
      rw [this, if_neg h, tot_cons, ih]; simp; omega
theorem co_out (e x : Int) (l : List T) : co (out e l) x = if x = e then 0 else co l x := by
  have h := tot_out e (at1 x) l
  by_cases c : x = e
  · subst c
    have h2 : at1 x x = 1 := by simp [at1]
    rw [h2] at h
    simp only [co] at *
    rw [if_pos trivial]; omega
  · have h2 : at1 x e = 0 := by simp [at1]; omega
    rw [h2] at h
    simp only [co] at *
    rw [if_neg c]; omega
theorem out_length (t : T) (l : List T) : (out t.1 (t :: l)).length ≤ l.length := by
  have : out t.1 (t :: l) = out t.1 l := by simp [out]
  rw [this]; exact List.length_filter_le _ _
theorem tot_of_zero (f : Int → Int) : ∀ (n : Nat) (l : List T), l.length ≤ n → (∀ e, co l e = 0) → tot l f = 0
  | _, [], _, _ => rfl
  | 0, _ :: _, h, _ => by simp at h
  | n + 1, t :: l, h, h0 => by
    rw [tot_out t.1 f (t :: l), h0, Int.zero_mul, Int.zero_add]
    refine tot_of_zero f n _ (Nat.le_trans (out_length t l) (by simpa using h)) fun e => ?_
    rw [co_out, h0]; simp
def neg (l : List T) : List T := l.map fun t => (t.1, -t.2)
theorem tot_neg (l : List T) (f : Int → Int) : tot (neg l) f = -tot l f := by
  induction l with
  | nil => rfl
  | cons t l ih =>
    show tot ((t.1, -t.2) :: neg l) f = _
    rw [tot_cons, tot_cons, ih, Int.neg_add, Int.neg_mul]
/- lists with the same coefficients have the same sums -/
theorem tot_congr {l m : List T} (h : ∀ e, co l e = co m e) (f : Int → Int) : tot l f = tot m f := by
  have := tot_of_zero f _ (l ++ neg m) (Nat.le_refl _) fun e => by
    rw [co_app]
    show co l e + tot (neg m) (at1 e) = 0
    rw [tot_neg, h e]; show co m e + -co m e = 0; omega
  rw [tot_app, tot_neg] at this
  omega

/- products -/
def mul (a b : List T) : List T := a.flatMap fun s => b.map fun t => (s.1 + t.1, s.2 * t.2)
theorem tot_row (s : T) (b : List T) (f : Int → Int) : tot (b.map fun t => (s.1 + t.1, s.2 * t.2)) f = s.2 * tot b (fun y => f (s.1 + y)) := by
  induction b with
  | nil => simp [tot_nil]
  | cons t b ih => rw [List.map_cons, tot_cons, tot_cons, ih, Int.mul_add, Int.mul_assoc]
theorem tot_prod (a b : List T) (f : Int → Int) : tot (mul a b) f = tot a fun x => tot b fun y => f (x + y) := by
  induction a with
  | nil => rfl
  | cons s a ih =>
    show tot ((b.map fun t => (s.1 + t.1, s.2 * t.2)) ++ mul a b) f = _
    rw [tot_app, tot_row, ih, tot_cons]
theorem tot_swap (a b : List T) (g : Int → Int → Int) : (tot a fun x => tot b fun y => g x y) = tot b fun y => tot a fun x => g x y := by
  induction a with
  | nil => rw [tot_nil]; simp only [tot_nil]; exact (tot_zero b).symm
  | cons s a ih =>
    rw [tot_cons, ih]
    simp only [tot_cons]
    rw [tot_add, tot_mul]

theorem mul_comm (a b : List T) (f : Int → Int) : tot (mul a b) f = tot (mul b a) f := by
  rw [tot_prod, tot_prod, tot_swap]
  simp only [Int.add_comm]
theorem mul_assoc (a b c : List T) (f : Int → Int) : tot (mul (mul a b) c) f = tot (mul a (mul b c)) f := by
  rw [tot_prod, tot_prod, tot_prod]
  simp only [tot_prod, Int.add_assoc]
theorem mul_dist (a b c : List T) (f : Int → Int) : tot (mul a (b ++ c)) f = tot (mul a b) f + tot (mul a c) f := by
  rw [tot_prod, tot_prod, tot_prod, ← tot_add]
  simp only [tot_app]
theorem mul_one (a : List T) (f : Int → Int) : tot (mul a [(0, 1)]) f = tot a f := by
  rw [tot_prod]
  simp only [tot_cons, tot_nil, Int.add_zero, Int.one_mul]
/- a product of lists with the same coefficients -/
theorem mul_congr {a a' b b' : List T} (ha : ∀ e, co a e = co a' e) (hb : ∀ e, co b e = co b' e) (f : Int → Int) : tot (mul a b) f = tot (mul a' b') f := by
  rw [tot_prod, tot_prod, tot_congr ha]
  congr 1
  funext x
  exact tot_congr hb _
/- values: where the test goes over sums as a product -/
theorem value_mul (a b : List T) (f : Int → Int) (hf : ∀ x y, f (x + y) = f x * f y) : tot (mul a b) f = tot a f * tot b f := by
  rw [tot_prod]
  simp only [hf]
  rw [show (fun x => tot b fun y => f x * f y) = fun x => tot b f * f x from by funext x; rw [tot_mul, Int.mul_comm]]
  rw [tot_mul, Int.mul_comm]

/- in form: exponents go up, no coefficient is nought; then the coefficients tell the list -/
def Form : List T → Prop
  | [] => True
  | t :: l => t.2 ≠ 0 ∧ (∀ u ∈ l, t.1 < u.1) ∧ Form l
theorem co_below {e : Int} : ∀ {l : List T}, (∀ u ∈ l, e < u.1) → co l e = 0
  | [], _ => rfl
  | t :: l, h => by
    rw [co_cons, co_below fun u hu => h u (by simp [hu]), if_neg (by have := h t (by simp); omega)]; rfl
theorem form_unique : ∀ {l m : List T}, Form l → Form m → (∀ e, co l e = co m e) → l = m
  | [], [], _, _, _ => rfl
  | [], t :: m, _, hm, h => by
    have := h t.1
    rw [co_nil, co_cons, if_pos rfl, co_below hm.2.1] at this
    exact absurd (by omega) hm.1
  | t :: l, [], hl, _, h => by
    have := h t.1
    rw [co_nil, co_cons, if_pos rfl, co_below hl.2.1] at this
    exact absurd (by omega) hl.1
  | t :: l, u :: m, hl, hm, h => by
    have e1 : t.1 = u.1 := by
      rcases Int.lt_trichotomy t.1 u.1 with c | c | c
      · have := h t.1
        rw [co_cons, if_pos rfl, co_below hl.2.1, co_below (l := u :: m) (fun v hv => by
          rcases List.mem_cons.1 hv with rfl | hv
          · exact c
          · have := hm.2.1 v hv; omega)] at this
        exact absurd (by omega) hl.1
      · exact c
      · have := h u.1
        rw [co_cons u, if_pos rfl, co_below hm.2.1, co_below (l := t :: l) (fun v hv => by
          rcases List.mem_cons.1 hv with rfl | hv
          · exact c
          · have := hl.2.1 v hv; omega)] at this
        exact absurd (by omega) hm.1
    have e2 : t.2 = u.2 := by
      have := h t.1
      rw [co_cons, co_cons, if_pos rfl, if_pos e1.symm, co_below hl.2.1, e1, co_below hm.2.1] at this
      omega
    have e3 : t = u := Prod.ext e1 e2
    subst e3
    rw [form_unique hl.2.2 hm.2.2 fun e => by have := h e; rw [co_cons, co_cons] at this; omega]

/- sizes: what bounds every coefficient on the way -/
def size (l : List T) : Nat := (l.map fun t => t.2.natAbs).sum
theorem size_cons (t : T) (l : List T) : size (t :: l) = t.2.natAbs + size l := by simp [size]
theorem size_app (l m : List T) : size (l ++ m) = size l + size m := by simp [size]
theorem size_out (e : Int) : ∀ l : List T, (co l e).natAbs + size (out e l) ≤ size l
  | [] => by simp [co_nil, out, size]
  | t :: l => by
    have ih := size_out e l
    rw [co_cons, size_cons]
    by_cases h : t.1 = e
    · have : out e (t :: l) = out e l := by simp [out, h]
      rw [this, if_pos h]; omega
    · have : out e (t :: l) = t :: out e l := by simp [out, h]
      rw [this, if_neg h, size_cons, Int.zero_add]; omega
theorem size_form : ∀ {m l : List T}, Form m → (∀ e, co m e = co l e) → size m ≤ size l
  | [], _, _, _ => Nat.zero_le _
  | t :: m, l, hf, h => by
    have h1 := size_out t.1 l
    have h2 := h t.1
    rw [co_cons, if_pos rfl, co_below hf.2.1] at h2
    have h3 := size_form (l := out t.1 l) hf.2.2 fun e => by
      rw [co_out]
      split
      · next c => rw [c]; exact co_below hf.2.1
      · next c => rw [← h e, co_cons, if_neg fun x => c x.symm]; omega
    rw [size_cons]
    omega
theorem size_row (s : T) (b : List T) : size (b.map fun t => (s.1 + t.1, s.2 * t.2)) = s.2.natAbs * size b := by
  induction b with
  | nil => rfl
  | cons t b ih => rw [List.map_cons, size_cons, size_cons, ih, Int.natAbs_mul, Nat.mul_add]
theorem size_mul (a b : List T) : size (mul a b) = size a * size b := by
  induction a with
  | nil => simp [mul, size]
  | cons s a ih =>
    show size ((b.map fun t => (s.1 + t.1, s.2 * t.2)) ++ mul a b) = _
    rw [size_app, size_row, ih, size_cons, Nat.add_mul]
theorem coef_le {l : List T} {t : T} (h : t ∈ l) : t.2.natAbs ≤ size l := by
  induction l with
  | nil => cases h
  | cons u l ih =>
    rw [size_cons]
    rcases List.mem_cons.1 h with rfl | h
    · omega
    · have := ih h; omega
theorem co_none {l : List T} {e : Int} (h : ∀ t ∈ l, t.1 ≠ e) : co l e = 0 := by
  induction l with
  | nil => rfl
  | cons u l ih => rw [co_cons, if_neg (h u (by simp)), ih fun t ht => h t (by simp [ht])]; rfl
theorem form_co {m : List T} (hf : Form m) {t : T} (ht : t ∈ m) : co m t.1 = t.2 := by
  induction m with
  | nil => cases ht
  | cons u m ih =>
    rw [co_cons]
    rcases List.mem_cons.1 ht with rfl | ht
    · rw [if_pos rfl, co_below hf.2.1]; omega
    · rw [if_neg (by have := hf.2.1 t ht; omega), ih hf.2.2 ht]; omega
theorem form_ne {m : List T} (hf : Form m) {t : T} (ht : t ∈ m) : t.2 ≠ 0 := by
  induction m with
  | nil => cases ht
  | cons u m ih =>
    rcases List.mem_cons.1 ht with rfl | ht
    · exact hf.1
    · exact ih hf.2.2 ht
/- exponents of a form are exponents of what it was made of -/
theorem form_exp {m l : List T} (hf : Form m) (h : ∀ e, co m e = co l e) {t : T} (ht : t ∈ m) : ∃ u ∈ l, u.1 = t.1 := by
  refine Classical.byContradiction fun c => form_ne hf ht ?_
  rw [← form_co hf ht, h]
  exact co_none fun u hu e => c ⟨u, hu, e⟩

/- the form of a function over keys that go up -/
def Up : List Int → Prop
  | [] => True
  | k :: l => (∀ x ∈ l, k < x) ∧ Up l
def ofMap (f : Int → Int) : List Int → List T
  | [] => []
  | k :: l => if f k = 0 then ofMap f l else (k, f k) :: ofMap f l
theorem ofMap_mem {f : Int → Int} {ks : List Int} {t : T} (h : t ∈ ofMap f ks) : t.1 ∈ ks := by
  induction ks with
  | nil => cases h
  | cons k l ih =>
    unfold ofMap at h
    split at h
    · exact List.mem_cons_of_mem _ (ih h)
    · rcases List.mem_cons.1 h with rfl | h
      · simp
      · exact List.mem_cons_of_mem _ (ih h)
theorem ofMap_form {f : Int → Int} : ∀ {ks : List Int}, Up ks → Form (ofMap f ks)
  | [], _ => trivial
  | k :: l, h => by
    unfold ofMap
    split
    · exact ofMap_form h.2
    · next c => exact ⟨c, fun u hu => h.1 _ (ofMap_mem hu), ofMap_form h.2⟩
theorem ofMap_co {f : Int → Int} (e : Int) : ∀ {ks : List Int}, Up ks → co (ofMap f ks) e = if e ∈ ks then f e else 0
  | [], _ => by simp [ofMap, co_nil]
  | k :: l, h => by
    have ih := ofMap_co (f := f) e h.2
    unfold ofMap
    by_cases c : e = k
    · subst c
      have hn : e ∉ l := fun x => by have := h.1 e x; omega
      rw [if_neg hn] at ih
      split
      · next c0 => rw [ih, c0]; simp
      · rw [co_cons, if_pos rfl, ih]; simp
    · split
      · rw [ih]; simp [c]
      · rw [co_cons, if_neg fun x => c x.symm, ih]; simp [c]

/- a form is no longer than its room -/
theorem form_length {hi : Int} : ∀ {m : List T} {lo : Int}, Form m → (∀ t ∈ m, lo ≤ t.1 ∧ t.1 ≤ hi) → (m.length : Int) ≤ max 0 (hi - lo + 1)
  | [], _, _, _ => by simp; omega
  | t :: m, lo, hf, h => by
    have h1 := h t (by simp)
    have h2 := form_length (lo := t.1 + 1) hf.2.2 fun u hu => ⟨by have := hf.2.1 u hu; omega, (h u (by simp [hu])).2⟩
    rw [List.length_cons]
    omega

/- what 'May' asks: of a form of small exponents and coefficients -/
def May (m : List T) : Prop := m.length ≤ 64 ∧ Form m ∧ ∀ t ∈ m, (-1000 ≤ t.1 ∧ t.1 ≤ 1000) ∧ (-1000000 ≤ t.2 ∧ t.2 ≤ 1000000)
/- exponents within N, sizes within S -/
def In (N : Int) (S : Nat) (m : List T) : Prop := (∀ t ∈ m, -N ≤ t.1 ∧ t.1 ≤ N) ∧ size m ≤ S
theorem may_of {N : Int} {S : Nat} {m : List T} (hf : Form m) (h : In N S m) (hN : N ≤ 31) (hS : S ≤ 1000000) : May m := by
  refine ⟨?_, hf, fun t ht => ⟨?_, ?_⟩⟩
  · have := form_length hf h.1; omega
  · have := h.1 t ht; omega
  · have := coef_le ht; have := h.2; omega
theorem in_app {N N' : Int} {S S' : Nat} {a b : List T} (ha : In N S a) (hb : In N' S' b) : In (max N N') (S + S') (a ++ b) := by
  refine ⟨fun t ht => ?_, by rw [size_app]; have := ha.2; have := hb.2; omega⟩
  rcases List.mem_append.1 ht with ht | ht
  · have := ha.1 t ht; omega
  · have := hb.1 t ht; omega
theorem in_mul {N N' : Int} {S S' : Nat} {a b : List T} (ha : In N S a) (hb : In N' S' b) : In (N + N') (S * S') (mul a b) := by
  refine ⟨fun t ht => ?_, by rw [size_mul]; exact Nat.mul_le_mul ha.2 hb.2⟩
  simp only [mul, List.mem_flatMap, List.mem_map] at ht
  obtain ⟨s, hs, u, hu, rfl⟩ := ht
  have := ha.1 s hs
  have := hb.1 u hu
  show -(N + N') ≤ s.1 + u.1 ∧ s.1 + u.1 ≤ N + N'
  omega
theorem in_form {N : Int} {S : Nat} {m l : List T} (hf : Form m) (h : ∀ e, co m e = co l e) (hl : In N S l) : In N S m := by
  refine ⟨fun t ht => ?_, Nat.le_trans (size_form hf h) hl.2⟩
  obtain ⟨u, hu, e⟩ := form_exp hf h ht
  rw [← e]; exact hl.1 u hu

/- is m the form of l? -/
def Is (m l : List T) : Prop := Form m ∧ ∀ e, co m e = co l e
theorem Is.unique {m m' l l' : List T} (h : Is m l) (h' : Is m' l') (e : ∀ x, co l x = co l' x) : m = m' :=
  form_unique h.1 h'.1 fun x => by rw [h.2, h'.2, e]
theorem add_comm' {a b m m' : List T} (h : Is m (a ++ b)) (h' : Is m' (b ++ a)) : m = m' := h.unique h' fun x => by rw [co_app, co_app]; omega
theorem add_assoc' {a b c p q m m' : List T} (hp : Is p (a ++ b)) (hm : Is m (p ++ c)) (hq : Is q (b ++ c)) (hm' : Is m' (a ++ q)) : m = m' :=
  hm.unique hm' fun x => by rw [co_app, co_app, hp.2, hq.2, co_app, co_app]; omega
theorem mul_comm' {a b m m' : List T} (h : Is m (mul a b)) (h' : Is m' (mul b a)) : m = m' := h.unique h' fun _ => mul_comm _ _ _
theorem mul_assoc' {a b c p q m m' : List T} (hp : Is p (mul a b)) (hm : Is m (mul p c)) (hq : Is q (mul b c)) (hm' : Is m' (mul a q)) : m = m' :=
  hm.unique hm' fun x => by
    rw [show co (mul p c) x = co (mul (mul a b) c) x from mul_congr hp.2 (fun _ => rfl) _, show co (mul a q) x = co (mul a (mul b c)) x from mul_congr (fun _ => rfl) hq.2 _]
    exact mul_assoc _ _ _ _
theorem mul_dist' {a b c p q r m m' : List T} (hp : Is p (b ++ c)) (hm : Is m (mul a p)) (hq : Is q (mul a b)) (hr : Is r (mul a c)) (hm' : Is m' (q ++ r)) : m = m' :=
  hm.unique hm' fun x => by
    rw [show co (mul a p) x = co (mul a (b ++ c)) x from mul_congr (fun _ => rfl) hp.2 _, co_app, hq.2, hr.2]
    exact mul_dist _ _ _ _
theorem mul_one' {a m : List T} (ha : Form a) (h : Is m (mul a [(0, 1)])) : m = a := h.unique (l' := a) ⟨ha, fun _ => rfl⟩ fun _ => mul_one _ _
/- values -/
theorem value_add' {a b m : List T} (h : Is m (a ++ b)) (f : Int → Int) : tot m f = tot a f + tot b f := by rw [tot_congr h.2, tot_app]
theorem value_mul' {a b m : List T} (h : Is m (mul a b)) (f : Int → Int) (hf : ∀ x y, f (x + y) = f x * f y) : tot m f = tot a f * tot b f := by
  rw [tot_congr h.2, value_mul _ _ _ hf]
/- the test of At at -1 -/
def sgn (e : Int) : Int := if e % 2 = 0 then 1 else -1
theorem sgn_add (x y : Int) : sgn (x + y) = sgn x * sgn y := by
  unfold sgn
  have h1 : x % 2 = 0 ∨ x % 2 = 1 := by omega
  have h2 : y % 2 = 0 ∨ y % 2 = 1 := by omega
  rcases h1 with h1 | h1 <;> rcases h2 with h2 | h2
  · rw [if_pos h1, if_pos h2, if_pos (by omega)]; rfl
  · rw [if_pos h1, if_neg (by omega), if_neg (by omega)]; rfl
  · rw [if_neg (by omega), if_pos h2, if_neg (by omega)]; rfl
  · rw [if_neg (show ¬ x % 2 = 0 by omega), if_neg (show ¬ y % 2 = 0 by omega), if_pos (show (x + y) % 2 = 0 by omega)]; rfl
/- flips -/
def flip (l : List T) : List T := l.map fun t => (-t.1, t.2)
theorem co_flip (l : List T) (e : Int) : co (flip l) e = co l (-e) := by
  induction l with
  | nil => rfl
  | cons t l ih =>
    show co ((-t.1, t.2) :: flip l) e = _
    rw [co_cons, co_cons, ih]
    by_cases c : t.1 = -e
    · rw [if_pos c, if_pos (by show -t.1 = e; omega)]
    · rw [if_neg c, if_neg (by show ¬ -t.1 = e; omega)]
theorem flip_flip' {a f g : List T} (ha : Form a) (h : Is f (flip a)) (h' : Is g (flip f)) : g = a :=
  h'.unique (l' := a) ⟨ha, fun _ => rfl⟩ fun x => by rw [co_flip, h.2, co_flip, Int.neg_neg]

/- what 'small' makes, key by key -/
theorem ofMap_app (f : Int → Int) : ∀ ks ls : List Int, ofMap f (ks ++ ls) = ofMap f ks ++ ofMap f ls
  | [], _ => rfl
  | k :: ks, ls => by
    show (if f k = 0 then ofMap f (ks ++ ls) else (k, f k) :: ofMap f (ks ++ ls)) = (if f k = 0 then ofMap f ks else (k, f k) :: ofMap f ks) ++ ofMap f ls
    rw [ofMap_app f ks ls]
    split <;> rfl
theorem up_snoc {k : Int} : ∀ {l : List Int}, Up l → (∀ x ∈ l, x < k) → Up (l ++ [k])
  | [], _, _ => ⟨fun x hx => (by cases hx), trivial⟩
  | a :: l, h, hk => by
    refine ⟨fun x hx => ?_, up_snoc h.2 fun x hx => hk x (by simp [hx])⟩
    rcases List.mem_append.1 hx with hx | hx
    · exact h.1 x hx
    · rw [List.mem_singleton] at hx
      subst hx
      exact hk a (by simp)
def keys (k : Nat) : List Int := (List.range k).map fun (i : Nat) => (i : Int) - 4
theorem keys_succ (k : Nat) : keys (k + 1) = keys k ++ [(k : Int) - 4] := by simp [keys, List.range_succ]
theorem keys_mem {k : Nat} {x : Int} (h : x ∈ keys k) : -4 ≤ x ∧ x < (k : Int) - 4 := by
  obtain ⟨i, hi, rfl⟩ := List.mem_map.1 h
  rw [List.mem_range] at hi
  omega
theorem keys_up : ∀ k, Up (keys k)
  | 0 => trivial
  | k + 1 => by rw [keys_succ]; exact up_snoc (keys_up k) fun x hx => (keys_mem hx).2
theorem ofMap_size {f : Int → Int} {S : Nat} (h : ∀ e, (f e).natAbs ≤ S) : ∀ ks : List Int, size (ofMap f ks) ≤ S * ks.length
  | [] => Nat.zero_le _
  | k :: l => by
    have ih := ofMap_size h l
    have := h k
    unfold ofMap
    rw [List.length_cons, Nat.mul_add]
    split
    · omega
    · rw [size_cons]; show (f k).natAbs + _ ≤ _; omega
theorem small_in {f : Int → Int} (h : ∀ e, (f e).natAbs ≤ 9) {k : Nat} (hk : k ≤ 9) : Form (ofMap f (keys k)) ∧ In 4 81 (ofMap f (keys k)) := by
  refine ⟨ofMap_form (keys_up k), fun t ht => ?_, ?_⟩
  · have := keys_mem (ofMap_mem ht); omega
  · have h1 := ofMap_size h (keys k)
    have h2 : (keys k).length = k := by simp [keys]
    rw [h2] at h1
    omega
end Pl
