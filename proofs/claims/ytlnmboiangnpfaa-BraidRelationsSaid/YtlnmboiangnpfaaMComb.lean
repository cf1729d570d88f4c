/- Plain mathematics: what braids do to the letters of a free group tells them apart (by combing), for two to five strands. -/
import Derived.Test.YtlnmboiangnpfaaMFr
namespace Bd

/- ---- the relations leave the action alone ---- -/
inductive RelF (n : Nat) : List Int → List Int → Prop
  | cancel (a : Int) : RelF n [a, -a] []
  | near {i j : Nat} (hi : i ∈ lets n) (hj : j ∈ lets n) (h : near i j = true) : RelF n [(i : Int), j, i] [(j : Int), i, j]
  | far {i j : Nat} (hi : i ∈ lets n) (hj : j ∈ lets n) (h : Bd.near i j = false) : RelF n [(i : Int), j] [(j : Int), i]
  | app {u v : List Int} (x y : List Int) (h : RelF n u v) : RelF n (x ++ u ++ y) (x ++ v ++ y)
  | refl (u : List Int) : RelF n u u
  | symm {u v : List Int} (h : RelF n u v) : RelF n v u
  | trans {u v w : List Int} (h : RelF n u v) (h' : RelF n v w) : RelF n u w

instance {n : Nat} {a : Int} : Decidable (Let n a) := by unfold Let; exact inferInstance

theorem RelF.valid {n : Nat} {u v : List Int} (h : RelF n u v) : Rel n (u.filter (Let n ·)) (v.filter (Let n ·)) := by
  have hw : ∀ w : List Int, Word n (w.filter (Let n ·)) := fun w a ha => by simpa using (List.mem_filter.1 ha).2
  induction h with
  | cancel a =>
    by_cases ha : Let n a
    · have e : [a, -a].filter (Let n ·) = [a, -a] := by simp [ha, ha.neg]
      rw [e]; exact .cancel ha
    · have h2 : ¬ Let n (-a) := fun h => ha (by have := h.neg; rwa [Int.neg_neg] at this)
      have e : [a, -a].filter (Let n ·) = [] := by simp [ha, h2]
      rw [e]; exact .refl _ word_nil
  | near hi hj h => simp only [List.filter_cons, let_nat hi, let_nat hj, decide_true, if_true, List.filter_nil]; exact .near hi hj h
  | far hi hj h => simp only [List.filter_cons, let_nat hi, let_nat hj, decide_true, if_true, List.filter_nil]; exact .far hi hj h
  | app x y _ ih => simp only [List.filter_append]; exact .app (hw x) (hw y) ih
  | refl u => exact .refl _ (hw u)
  | symm _ ih => exact ih.symm
  | trans _ _ ih1 ih2 => exact ih1.trans ih2
theorem RelF.rel {n : Nat} {u v : List Int} (h : RelF n u v) (hu : Word n u) (hv : Word n v) : Rel n u v := by
  have := h.valid
  rwa [List.filter_eq_self.2 (fun a ha => by simpa using hu a ha), List.filter_eq_self.2 (fun a ha => by simpa using hv a ha)] at this
theorem Rel.relF {n : Nat} {u v : List Int} (h : Rel n u v) : RelF n u v := by
  induction h with
  | cancel _ => exact .cancel _
  | near hi hj h => exact .near hi hj h
  | far hi hj h => exact .far hi hj h
  | app _ _ _ ih => exact .app _ _ ih
  | refl u _ => exact .refl _
  | symm _ ih => exact ih.symm
  | trans _ _ ih1 ih2 => exact ih1.trans ih2
theorem RelF.mono {m n : Nat} (hmn : m ≤ n) {u v : List Int} (h : RelF m u v) : RelF n u v := by
  have hl : ∀ {i}, i ∈ lets m → i ∈ lets n := fun {i} hi => by rw [mem_lets] at hi ⊢; omega
  induction h with
  | cancel a => exact .cancel a
  | near hi hj h => exact .near (hl hi) (hl hj) h
  | far hi hj h => exact .far (hl hi) (hl hj) h
  | app x y _ ih => exact .app x y ih
  | refl u => exact .refl u
  | symm _ ih => exact ih.symm
  | trans _ _ ih1 ih2 => exact ih1.trans ih2

theorem a1_pos (T : Tup) {i : Nat} (hi : 1 ≤ i) (j : Nat) : a1 T (i : Int) j = if j = i then T i ++ T (i + 1) ++ rinv (T i) else if j = i + 1 then T i else T j := by
  unfold a1
  rw [if_neg (by omega), if_pos (by omega), show (i : Int).natAbs = i from by omega]
theorem a1_neg (T : Tup) {i : Nat} (hi : 1 ≤ i) (j : Nat) : a1 T (-(i : Int)) j = if j = i then T (i + 1) else if j = i + 1 then rinv (T (i + 1)) ++ T i ++ T (i + 1) else T j := by
  unfold a1
  rw [if_neg (by omega), if_neg (by omega), show (-(i : Int)).natAbs = i from by omega]

theorem e_mid1 (a b : List Int) : E (a ++ (rinv a ++ b)) b := by
  have := (e_inv a).left b
  simpa using this
theorem e_mid2 (a b : List Int) : E (rinv a ++ (a ++ b)) b := by
  have := (e_inv' a).left b
  simpa using this
theorem e_end1 (a b : List Int) : E (b ++ (a ++ rinv a)) b := by
  have := (e_inv a).right b
  simpa using this
theorem e_end2 (a b : List Int) : E (b ++ (rinv a ++ a)) b := by
  have := (e_inv' a).right b
  simpa using this

theorem act_cancel (T : Tup) (a : Int) : ET (act T [a, -a]) T := by
  intro j hj
  show E (a1 (a1 T a) (-a) j) (T j)
  by_cases h0 : a = 0
  · subst h0; exact .refl _
  · by_cases hp : 0 < a
    · obtain ⟨i, rfl⟩ : ∃ i : Nat, a = i := ⟨a.toNat, by omega⟩
      have hi : 1 ≤ i := by omega
      rw [a1_neg _ hi]
      simp only [a1_pos _ hi]
      split
      · next h => subst h; simp only [show ¬ (j + 1 = j) from by omega, if_true, if_false]; exact .refl _
      · split
        · next h =>
          subst h
          simp only [if_true, show ¬ (i + 1 = i) from by omega, if_false, List.append_assoc]
          refine (e_mid2 _ _).trans ?_
          exact e_end2 _ _
        · exact .refl _
    · obtain ⟨i, hi0⟩ : ∃ i : Nat, a = -(i : Int) := ⟨(-a).toNat, by omega⟩
      have hi : 1 ≤ i := by omega
      subst hi0
      rw [Int.neg_neg, a1_pos _ hi]
      simp only [a1_neg _ hi]
      split
      · next h =>
        subst h
        simp only [if_true, show ¬ (j + 1 = j) from by omega, if_false, List.append_assoc]
        exact (e_mid1 _ _).trans (e_end1 _ _)
      · split
        · next h => subst h; simp only [if_true]; exact .refl _
        · exact .refl _

theorem act_near1 (T : Tup) {i : Nat} (hi : 1 ≤ i) : ET (act T [(i : Int), (i + 1 : Nat), i]) (act T [((i + 1 : Nat) : Int), i, (i + 1 : Nat)]) := by
  intro j hj
  show E (a1 (a1 (a1 T i) (i + 1 : Nat)) i j) (a1 (a1 (a1 T (i + 1 : Nat)) i) (i + 1 : Nat) j)
  have hi1 : 1 ≤ i + 1 := by omega
  simp only [a1_pos _ hi, a1_pos _ hi1]
  by_cases h1 : j = i
  · subst h1
    simp only [if_true, show ¬ (j + 1 = j) from by omega, show ¬ (j = j + 1) from by omega, show ¬ (j + 1 + 1 = j) from by omega, show ¬ (j + 1 + 1 = j + 1) from by omega, show ¬ (j = j + 1 + 1) from by omega, if_false, rinv_app, rinv_rinv, List.append_assoc]
    refine E.right _ (E.right _ ?_)
    refine (e_mid2 _ _).trans (E.right _ ?_)
    exact e_mid2 _ _
  · by_cases h2 : j = i + 1
    · subst h2
      simp only [if_true, show ¬ (i + 1 = i) from by omega, show ¬ (i = i + 1) from by omega, show ¬ (i + 1 + 1 = i) from by omega, show ¬ (i + 1 + 1 = i + 1) from by omega, show ¬ (i = i + 1 + 1) from by omega, if_false, rinv_app, rinv_rinv, List.append_assoc]
      exact .refl _
    · by_cases h3 : j = i + 1 + 1
      · subst h3
        simp only [if_true, show ¬ (i + 1 = i) from by omega, show ¬ (i = i + 1) from by omega, show ¬ (i + 1 + 1 = i) from by omega, show ¬ (i + 1 + 1 = i + 1) from by omega, show ¬ (i = i + 1 + 1) from by omega, if_false, rinv_app, rinv_rinv, List.append_assoc]
        exact .refl _
      · simp only [h1, h2, h3, if_false]; exact .refl _
theorem act_far (T : Tup) {i j : Nat} (hi : 1 ≤ i) (hj : 1 ≤ j) (h : near i j = false) (hij : i ≠ j) : act T [(i : Int), j] = act T [(j : Int), i] := by
  funext k
  show a1 (a1 T i) j k = a1 (a1 T j) i k
  have hn : ¬ (i + 1 = j) ∧ ¬ (j + 1 = i) := by simpa [near] using h
  have e1 := hn.1
  have e2 := hn.2
  simp only [a1_pos _ hi, a1_pos _ hj]
  have n1 : ¬ (j = i) := fun h => hij h.symm
  have n2 : ¬ (j = i + 1) := fun h => e1 h.symm
  have n3 : ¬ (i = j + 1) := fun h => e2 h.symm
  have n4 : ¬ (j + 1 = i + 1) := by omega
  have n5 : ¬ (i + 1 = j + 1) := by omega
  simp only [n1, n2, n3, n4, n5, e1, e2, hij, if_false]
  by_cases a : k = i
  · subst a; simp only [if_true, hij, n3, if_false]
  · by_cases b : k = j
    · subst b; simp only [if_true, n1, n2, if_false]
    · by_cases c : k = i + 1
      · subst c; simp only [if_true, a, b, n5, if_false]
      · simp only [a, b, c, if_false]

theorem RelF.act {n : Nat} {u v : List Int} (h : RelF n u v) : ∀ T : Tup, ET (act T u) (act T v) := by
  induction h with
  | cancel a => exact fun T => act_cancel T a
  | @near i j hi hj h =>
    intro T
    rw [mem_lets] at hi hj
    simp only [Bd.near, Bool.or_eq_true, beq_iff_eq] at h
    rcases h with rfl | rfl
    · exact act_near1 T hi.1
    · exact (act_near1 T hj.1).symm
  | @far i j hi hj h =>
    intro T
    rw [mem_lets] at hi hj
    by_cases hij : i = j
    · subst hij; exact .refl _
    · rw [act_far T hi.1 hj.1 h hij]; exact .refl _
  | app x y _ ih =>
    intro T
    rw [act_app, act_app, act_app, act_app]
    exact (ih _).act y
  | refl u => exact fun T => .refl _
  | symm _ ih => exact fun T => (ih T).symm
  | trans _ _ ih1 ih2 => exact fun T => (ih1 T).trans (ih2 T)

/- ---- the group ---- -/
def sR (n : Nat) : Setoid (List Int) := ⟨RelF n, fun u => .refl u, fun h => .symm h, fun h h' => .trans h h'⟩
def G (n : Nat) := Quotient (sR n)
def mk {n : Nat} (w : List Int) : G n := Quotient.mk (sR n) w
theorem mk_eq {n : Nat} {u v : List Int} (h : RelF n u v) : (mk u : G n) = mk v := Quotient.sound (s := sR n) h
theorem RelF.ofMk {n : Nat} {u v : List Int} (h : (mk u : G n) = mk v) : RelF n u v := Quotient.exact (s := sR n) h

theorem RelF.app2 {n : Nat} {u u' v v' : List Int} (h : RelF n u u') (h' : RelF n v v') : RelF n (u ++ v) (u' ++ v') := by
  have a := h.app [] v
  have b := h'.app u' []
  simp only [List.nil_append, List.append_nil] at a b
  exact a.trans b
theorem relF_inv {n : Nat} : ∀ u : List Int, RelF n (u ++ rinv u) []
  | [] => .refl _
  | a :: u => by
    have e : a :: u ++ rinv (a :: u) = [a] ++ (u ++ rinv u) ++ [-a] := by rw [rinv_cons]; simp
    have h := (relF_inv (n := n) u).app [a] [-a]
    rw [e]
    exact h.trans (.cancel a)
theorem relF_inv' {n : Nat} (u : List Int) : RelF n (rinv u ++ u) [] := by
  have := relF_inv (n := n) (rinv u)
  rwa [rinv_rinv] at this
theorem RelF.inv {n : Nat} {u v : List Int} (h : RelF n u v) : RelF n (rinv u) (rinv v) := by
  have h1 : RelF n (rinv u) (rinv u ++ (v ++ rinv v)) := by
    have := (RelF.refl (rinv u)).app2 (relF_inv (n := n) v).symm
    rwa [List.append_nil] at this
  have h2 : RelF n (rinv u ++ (v ++ rinv v)) (rinv u ++ (u ++ rinv v)) := (RelF.refl _).app2 (h.symm.app2 (.refl _))
  have h3 : RelF n (rinv u ++ (u ++ rinv v)) (rinv v) := by
    have := (relF_inv' (n := n) u).app2 (.refl (rinv v))
    rwa [List.append_assoc] at this
  exact h1.trans (h2.trans h3)

instance {n : Nat} : Mul (G n) := ⟨fun a b => Quotient.liftOn₂ (s₁ := sR n) (s₂ := sR n) a b (fun u v => mk (u ++ v)) fun _ _ _ _ h h' => mk_eq (RelF.app2 h h')⟩
instance {n : Nat} : One (G n) := ⟨mk []⟩
instance {n : Nat} : Inv (G n) := ⟨fun a => Quotient.liftOn (s := sR n) a (fun u => mk (rinv u)) fun _ _ h => mk_eq (RelF.inv h)⟩

section group
variable {n : Nat}
theorem mk_app (u v : List Int) : (mk (u ++ v) : G n) = mk u * mk v := rfl
theorem mk_inv (u : List Int) : (mk (rinv u) : G n) = (mk u)⁻¹ := rfl
theorem mk_nil : (mk [] : G n) = 1 := rfl
theorem ex (a : G n) : ∃ u, a = mk u := Quotient.exists_rep (s := sR n) a |>.elim fun u h => ⟨u, h.symm⟩
theorem g_assoc (a b c : G n) : a * b * c = a * (b * c) := by
  obtain ⟨u, rfl⟩ := ex a; obtain ⟨v, rfl⟩ := ex b; obtain ⟨w, rfl⟩ := ex c
  rw [← mk_app, ← mk_app, ← mk_app, ← mk_app, List.append_assoc]
theorem g_one (a : G n) : 1 * a = a := by
  obtain ⟨u, rfl⟩ := ex a; rw [← mk_nil, ← mk_app]; rfl
theorem g_mul_one (a : G n) : a * 1 = a := by
  obtain ⟨u, rfl⟩ := ex a; rw [← mk_nil, ← mk_app, List.append_nil]
theorem g_inv (a : G n) : a * a⁻¹ = 1 := by
  obtain ⟨u, rfl⟩ := ex a; rw [← mk_inv, ← mk_app]; exact mk_eq (relF_inv u)
theorem g_inv' (a : G n) : a⁻¹ * a = 1 := by
  obtain ⟨u, rfl⟩ := ex a; rw [← mk_inv, ← mk_app]; exact mk_eq (relF_inv' u)
theorem g_inv_inv (a : G n) : a⁻¹⁻¹ = a := by
  obtain ⟨u, rfl⟩ := ex a; rw [← mk_inv, ← mk_inv, rinv_rinv]
theorem g_inv_mul (a b : G n) : (a * b)⁻¹ = b⁻¹ * a⁻¹ := by
  obtain ⟨u, rfl⟩ := ex a; obtain ⟨v, rfl⟩ := ex b
  rw [← mk_app, ← mk_inv, rinv_app]; rfl
theorem g_inv_one : (1 : G n)⁻¹ = 1 := rfl
theorem g_c1 (a b : G n) : a * (a⁻¹ * b) = b := by rw [← g_assoc, g_inv, g_one]
theorem g_c2 (a b : G n) : a⁻¹ * (a * b) = b := by rw [← g_assoc, g_inv', g_one]
theorem g_left {a b c : G n} (h : a * b = a * c) : b = c := by
  have := congrArg (a⁻¹ * ·) h
  simpa only [g_c2] using this
theorem g_right {a b c : G n} (h : a * c = b * c) : a = b := by
  have := congrArg (· * c⁻¹) h
  simpa only [g_assoc, g_inv, g_mul_one] using this

/- a commutes with b, so with its reciprocal -/
def Com (a b : G n) : Prop := a * b = b * a
theorem Com.symm {a b : G n} (h : Com a b) : Com b a := Eq.symm h
theorem Com.inv {a b : G n} (h : Com a b) : Com a b⁻¹ := by
  unfold Com at *
  apply g_left (a := b)
  apply g_right (c := b)
  rw [g_c1]
  simp only [g_assoc, g_inv', g_mul_one]
  exact h.symm
theorem Com.mul {a b c : G n} (h : Com a b) (h' : Com a c) : Com a (b * c) := by
  unfold Com at *
  rw [← g_assoc, h, g_assoc, h', g_assoc]
theorem Com.one (a : G n) : Com a 1 := by unfold Com; rw [g_one, g_mul_one]
end group

/- ---- the letters, and the words of combing ---- -/
section comb
variable {n : Nat}
def s (i : Nat) : G n := mk [(i : Int)]
theorem s_inv (i : Nat) : (mk [-(i : Int)] : G n) = (s i)⁻¹ := rfl

theorem s_far {i j : Nat} (hi : 1 ≤ i) (hj : i + 2 ≤ j) (hn : j < n) : Com (s i : G n) (s j) := by
  have := RelF.far (n := n) (i := i) (j := j) (mem_lets.2 (by omega)) (mem_lets.2 (by omega)) (by simp [near]; omega)
  exact mk_eq this
theorem s_near {i : Nat} (hi : 1 ≤ i) (hn : i + 1 < n) : (s i : G n) * (s (i + 1) * s i) = s (i + 1) * (s i * s (i + 1)) := by
  have := RelF.near (n := n) (i := i) (j := i + 1) (mem_lets.2 (by omega)) (mem_lets.2 (by omega)) (by simp [near])
  exact mk_eq this

/- rl d: the letters -(n-1), .., -(n-d) -/
def rl (n : Nat) : Nat → List Int
  | 0 => []
  | d + 1 => rl n d ++ [-((n - 1 - d : Nat) : Int)]
/- r k: down to k -/
def r (k : Nat) : G n := mk (rl n (n - k))
theorem r_top : (r n : G n) = 1 := by unfold r; rw [Nat.sub_self]; rfl
theorem r_succ {k : Nat} (hk : k < n) : (r k : G n) = r (k + 1) * (s k)⁻¹ := by
  unfold r
  have e : n - k = (n - (k + 1)) + 1 := by omega
  rw [e]
  show mk (rl n (n - (k + 1)) ++ [-((n - 1 - (n - (k + 1)) : Nat) : Int)]) = _
  rw [show n - 1 - (n - (k + 1)) = k from by omega]
  rfl

/- R1 -/
theorem s_r_com {i : Nat} (hi : 1 ≤ i) : ∀ (d : Nat) {k : Nat}, k + d = n → i + 2 ≤ k → Com (s i : G n) (r k)
  | 0, k, hk, _ => by
    have : k = n := by omega
    subst this; rw [r_top]; exact .one _
  | d + 1, k, hk, h => by
    rw [r_succ (by omega)]
    exact (s_r_com hi d (by omega) (by omega)).mul (s_far hi h (by omega)).inv
/- R2 -/
theorem r_s : ∀ (d : Nat) {k i : Nat}, k + d = n → 1 ≤ k → k < i → i < n → (r k : G n) * s i = s (i - 1) * r k
  | 0, k, i, hk, _, h, h' => by omega
  | d + 1, k, i, hk, h1, h, h' => by
    by_cases hik : i = k + 1
    · subst hik
      rw [r_succ (by omega), r_succ (k := k + 1) (by omega)]
      have hc := s_r_com (n := n) h1 (n - (k + 2)) (k := k + 2) (by omega) (by omega)
      have hb := s_near (n := n) h1 (by omega)
      have hx : (s (k + 1) : G n)⁻¹ * ((s k)⁻¹ * s (k + 1)) = s k * ((s (k + 1))⁻¹ * (s k)⁻¹) := by
        apply g_left (a := s k * s (k + 1))
        apply g_right (c := s k * s (k + 1))
        simp only [g_assoc, g_c1, g_c2]
        simp only [hb, g_inv', g_mul_one]
      simp only [g_assoc]
      rw [hx]
      show r (k + 2) * _ = s (k + 1 - 1) * _
      rw [Nat.add_sub_cancel, ← g_assoc, ← g_assoc (s k)]
      congr 1
      exact hc.symm
    · rw [r_succ (by omega)]
      have hc := (s_far (n := n) (i := k) (j := i) h1 (by omega) h').symm.inv
      have ih := r_s d (k := k + 1) (i := i) (by omega) (by omega) (by omega) h'
      rw [g_assoc]
      unfold Com at hc
      rw [← hc, ← g_assoc, ih, g_assoc]

/- the strand n goes round the strand k -/
def A (k : Nat) : G n := r (k + 1) * (s k * (s k * (r (k + 1))⁻¹))

theorem A_com {i k : Nat} (hi : 1 ≤ i) (hin : i + 1 < n) (hk : 1 ≤ k) (hkn : k < n) (h : i + 1 < k ∨ k < i) : Com (s i : G n) (A k) := by
  rcases h with h | h
  · have c1 := s_r_com (n := n) hi (n - (k + 1)) (k := k + 1) (by omega) (by omega)
    have c2 := s_far (n := n) hi (j := k) (by omega) hkn
    exact c1.mul (c2.mul (c2.mul c1.inv))
  · have e : (r (k + 1) : G n) * s (i + 1) = s i * r (k + 1) := r_s (n - (k + 1)) (by omega) (by omega) (by omega) hin
    have c : Com (s (i + 1) : G n) (s k) := (s_far (n := n) hk (by omega) hin).symm
    have e' : (s (i + 1) : G n) * (r (k + 1))⁻¹ = (r (k + 1))⁻¹ * s i := by
      apply g_left (a := r (k + 1))
      apply g_right (c := r (k + 1))
      simp only [g_assoc, g_c1, g_inv', g_mul_one]
      exact e
    unfold Com at *
    unfold A
    rw [← g_assoc, ← e]
    simp only [g_assoc]
    rw [← e', ← g_assoc (s k) (s (i + 1)), ← c, g_assoc, ← g_assoc (s k) (s (i + 1)), ← c, g_assoc]

/- C2 -/
theorem A_next {k : Nat} (hk : 1 ≤ k) (hkn : k + 1 < n) : (A k : G n) * s k = s k * A (k + 1) := by
  have hb := s_near (n := n) hk hkn
  have hc := s_r_com (n := n) hk (n - (k + 2)) (k := k + 2) (by omega) (by omega)
  have hci := hc.inv
  have hx : (s k : G n) * (s k * (s (k + 1) * s k)) = s (k + 1) * (s k * (s (k + 1) * s (k + 1))) := by
    rw [hb]
    have : (s k : G n) * (s (k + 1) * (s k * s (k + 1))) = (s k * (s (k + 1) * s k)) * s (k + 1) := by simp only [g_assoc]
    rw [this, hb]
    simp only [g_assoc]
  unfold A
  rw [r_succ (k := k + 1) (by omega)]
  simp only [g_inv_mul, g_inv_inv, g_assoc]
  show r (k + 2) * ((s (k + 1))⁻¹ * (s k * (s k * (s (k + 1) * ((r (k + 2))⁻¹ * s k))))) = s k * (r (k + 2) * (s (k + 1) * (s (k + 1) * (r (k + 2))⁻¹)))
  unfold Com at hc hci
  rw [← hci, ← g_assoc (s k) (r (k + 2)), hc, g_assoc]
  congr 1
  have hy : (s k : G n) * (s k * (s (k + 1) * (s k * (r (k + 2))⁻¹))) = (s k * (s k * (s (k + 1) * s k))) * (r (k + 2))⁻¹ := by simp only [g_assoc]
  rw [hy, hx]
  simp only [g_assoc, g_c2]
/- C3 -/
theorem A_two {k : Nat} (hk : 1 ≤ k) (hkn : k + 1 < n) : Com (s k : G n) (A (k + 1) * A k) := by
  have hb := s_near (n := n) hk hkn
  have hc := s_r_com (n := n) hk (n - (k + 2)) (k := k + 2) (by omega) (by omega)
  have e : (A (k + 1) * A k : G n) = r (k + 2) * ((s (k + 1) * (s k * (s k * s (k + 1)))) * (r (k + 2))⁻¹) := by
    unfold A
    rw [r_succ (k := k + 1) (by omega)]
    simp only [g_inv_mul, g_inv_inv, g_assoc]
    show r (k + 2) * (s (k + 1) * (s (k + 1) * ((r (k + 2))⁻¹ * (r (k + 2) * _)))) = _
    rw [g_c2, g_c1]
  rw [e]
  refine hc.mul (Com.mul ?_ hc.inv)
  unfold Com
  have h1 : (s k : G n) * (s (k + 1) * (s k * (s k * s (k + 1)))) = (s k * (s (k + 1) * s k)) * (s k * s (k + 1)) := by simp only [g_assoc]
  rw [h1, hb]
  have h2 : (s (k + 1) * (s k * s (k + 1)) * (s k * s (k + 1)) : G n) = s (k + 1) * (s k * (s (k + 1) * (s k * s (k + 1)))) := by simp only [g_assoc]
  rw [h2, ← hb]
  simp only [g_assoc]

/- words in the A's -/
def wA (n k : Nat) : List Int := rl n (n - (k + 1)) ++ [(k : Int), k] ++ rinv (rl n (n - (k + 1)))
theorem mk_wA (k : Nat) : (mk (wA n k) : G n) = A k := by
  unfold wA
  rw [mk_app, mk_app, mk_inv]
  show r (k + 1) * (s k * s k) * (r (k + 1))⁻¹ = _
  unfold A
  simp only [g_assoc]
def OkA (n : Nat) (f : List Int) : Prop := ∀ x ∈ f, 1 ≤ x.natAbs ∧ x.natAbs < n
def IsA (g : G n) : Prop := ∃ f, OkA n f ∧ g = mk (sb (wA n) f)
theorem okA_app {f g : List Int} (h : OkA n f) (h' : OkA n g) : OkA n (f ++ g) := by
  intro x hx
  rcases List.mem_append.1 hx with hx | hx
  · exact h x hx
  · exact h' x hx
theorem IsA.one : IsA (1 : G n) := ⟨[], (fun _ h => by cases h), rfl⟩
theorem IsA.mul {a b : G n} (ha : IsA a) (hb : IsA b) : IsA (a * b) := by
  obtain ⟨f, hf, rfl⟩ := ha; obtain ⟨g, hg, rfl⟩ := hb
  exact ⟨f ++ g, okA_app hf hg, by rw [sb_app, mk_app]⟩
theorem IsA.inv {a : G n} (ha : IsA a) : IsA a⁻¹ := by
  obtain ⟨f, hf, rfl⟩ := ha
  refine ⟨rinv f, ?_, by rw [sb_rinv, mk_inv]⟩
  intro x hx
  simp only [rinv, List.mem_reverse, List.mem_map] at hx
  obtain ⟨y, hy, rfl⟩ := hx
  have := hf y hy
  rwa [Int.natAbs_neg]
theorem IsA.gen {k : Nat} (hk : 1 ≤ k) (hkn : k < n) : IsA (A k : G n) := by
  refine ⟨[(k : Int)], ?_, ?_⟩
  · intro x hx
    simp only [List.mem_singleton] at hx
    subst hx; omega
  · have : sb (wA n) [(k : Int)] = wA n k := by
      simp only [sb, List.flatMap_cons, List.flatMap_nil, List.append_nil, ltr]
      rw [if_pos (by omega)]; simp
    rw [this, mk_wA]
theorem IsA.ind {P : G n → Prop} (h1 : P 1) (hg : ∀ k, 1 ≤ k → k < n → P (A k)) (hi : ∀ a, P a → P a⁻¹) (hm : ∀ a b, P a → P b → P (a * b)) {a : G n} (ha : IsA a) : P a := by
  obtain ⟨f, hf, rfl⟩ := ha
  induction f with
  | nil => exact h1
  | cons x f ih =>
    rw [sb_cons, mk_app]
    refine hm _ _ ?_ (ih fun y hy => hf y (by simp [hy]))
    have hx := hf x (by simp)
    unfold ltr
    split
    · rw [mk_wA]; exact hg _ (by omega) (by omega)
    · rw [if_pos (by omega), mk_inv, mk_wA]; exact hi _ (hg _ (by omega) (by omega))

def Conj (c : G n) : Prop := ∀ a, IsA a → IsA (c * a * c⁻¹)
theorem conj_of {c : G n} (h : ∀ k, 1 ≤ k → k < n → IsA (c * A k * c⁻¹)) : Conj c := by
  intro a ha
  refine IsA.ind (P := fun a => IsA (c * a * c⁻¹)) ?_ h ?_ ?_ ha
  · rw [g_mul_one, g_inv]; exact .one
  · intro a h
    have := h.inv
    simpa only [g_inv_mul, g_inv_inv, g_assoc] using this
  · intro a b h h'
    have := h.mul h'
    simpa only [g_assoc, g_c2] using this
theorem Conj.mul {c d : G n} (h : Conj c) (h' : Conj d) : Conj (c * d) := by
  intro a ha
  have := h _ (h' a ha)
  simpa only [g_inv_mul, g_assoc] using this
theorem Conj.one : Conj (1 : G n) := by
  intro a ha
  rwa [g_one, g_inv_one, g_mul_one]
theorem Com.conj {a c : G n} (h : Com c a) : c * a * c⁻¹ = a := by
  rw [show c * a = a * c from h, g_assoc, g_inv, g_mul_one]
theorem conj_s {i : Nat} (hi : 1 ≤ i) (hin : i + 1 < n) : Conj (s i : G n) := by
  refine conj_of fun k hk hkn => ?_
  have c2 := A_next (n := n) hi hin
  have c3 : s i * (A (i + 1) * A i) = A (i + 1) * A i * s i := A_two (n := n) hi hin
  by_cases h1 : k = i
  · subst h1
    have e : (s k * A k * (s k)⁻¹ : G n) = (A k)⁻¹ * (A (k + 1) * A k) := by
      apply g_right (c := s k)
      apply g_left (a := A k)
      simp only [g_assoc, g_inv', g_mul_one, g_c1]
      rw [← g_assoc, c2, g_assoc, c3, g_assoc, c2]
    rw [e]
    exact (IsA.gen hk hkn).inv.mul ((IsA.gen (by omega) hin).mul (.gen hk hkn))
  · by_cases h2 : k = i + 1
    · subst h2
      rw [← c2, g_assoc, g_inv, g_mul_one]
      exact .gen hi (by omega)
    · rw [(A_com hi hin hk hkn (by omega)).conj]; exact .gen hk hkn
theorem conj_s_inv {i : Nat} (hi : 1 ≤ i) (hin : i + 1 < n) : Conj ((s i : G n)⁻¹) := by
  refine conj_of fun k hk hkn => ?_
  have c2 := A_next (n := n) hi hin
  have c3 : s i * (A (i + 1) * A i) = A (i + 1) * A i * s i := A_two (n := n) hi hin
  rw [g_inv_inv]
  by_cases h1 : k = i
  · subst h1
    rw [g_assoc, c2, g_c2]
    exact .gen (by omega) hin
  · by_cases h2 : k = i + 1
    · subst h2
      have e : ((s i)⁻¹ * A (i + 1) * s i : G n) = A (i + 1) * (A i * (A (i + 1))⁻¹) := by
        apply g_right (c := A (i + 1))
        simp only [g_assoc, g_inv', g_mul_one]
        rw [← c2]
        apply g_left (a := s i)
        simp only [g_c1]
        rw [c3, g_assoc]
      rw [e]
      exact (IsA.gen hk hkn).mul ((IsA.gen hi (by omega)).mul (IsA.gen hk hkn).inv)
    · have := (A_com (n := n) hi hin hk hkn (by omega)).symm.inv.symm.conj
      rw [g_inv_inv] at this
      rw [this]; exact .gen hk hkn

/- letters of one strand less -/
theorem conj_word : ∀ {w : List Int}, Word (n - 1) w → Conj (mk w : G n)
  | [], _ => Conj.one
  | a :: w, h => by
    have hw := conj_word (w := w) fun x hx => h x (by simp [hx])
    have ha := h a (by simp)
    refine Conj.mul (c := mk [a]) (d := mk w) ?_ hw
    rcases ha with ha | ha
    · obtain ⟨i, rfl⟩ : ∃ i : Nat, a = i := ⟨a.toNat, by omega⟩
      exact conj_s (by omega) (by omega)
    · obtain ⟨i, rfl⟩ : ∃ i : Nat, a = -(i : Int) := ⟨(-a).toNat, by omega⟩
      rw [s_inv]
      exact conj_s_inv (by omega) (by omega)

/- combing -/
theorem comb (h2 : 2 ≤ n) : ∀ (m : Nat) {w : List Int}, w.length ≤ m → Word n w → ∃ (a : G n) (v : List Int) (k : Nat), IsA a ∧ Word (n - 1) v ∧ 1 ≤ k ∧ k ≤ n ∧ mk w = a * (mk v * r k) := by
  intro m
  induction m with
  | zero =>
    intro w hl _
    have : w = [] := List.length_eq_zero_iff.1 (by omega)
    subst this
    exact ⟨1, [], n, .one, word_nil, by omega, Nat.le_refl _, by rw [r_top, mk_nil, g_one, g_one]⟩
  | succ m ih =>
    intro w hl hw
    rcases List.eq_nil_or_concat w with rfl | ⟨w, x, rfl⟩
    · exact ⟨1, [], n, .one, word_nil, by omega, Nat.le_refl _, by rw [r_top, mk_nil, g_one, g_one]⟩
    rw [List.concat_eq_append] at hl hw ⊢
    rw [word_app] at hw
    obtain ⟨a, v, k, ha, hv, hk1, hkn, e⟩ := ih (by simp at hl; omega) hw.1
    have hx : Let n x := hw.2 x (by simp)
    rw [mk_app, e]
    -- a letter of one strand less goes through
    have pass : ∀ y : List Int, Word (n - 1) y → (r k : G n) * mk [x] = mk y * r k → ∃ (a' : G n) (v' : List Int) (k' : Nat), IsA a' ∧ Word (n - 1) v' ∧ 1 ≤ k' ∧ k' ≤ n ∧ a * (mk v * r k) * mk [x] = a' * (mk v' * r k') := by
      intro y hy he
      refine ⟨a, v ++ y, k, ha, word_app.2 ⟨hv, hy⟩, hk1, hkn, ?_⟩
      rw [mk_app]
      simp only [g_assoc]
      rw [he]
    rcases hx with hx | hx
    · obtain ⟨i, rfl⟩ : ∃ i : Nat, x = i := ⟨x.toNat, by omega⟩
      have hi : 1 ≤ i := by omega
      have hin : i < n := by omega
      show ∃ (a' : G n) (v' : List Int) (k' : Nat), _ ∧ _ ∧ _ ∧ _ ∧ a * (mk v * r k) * s i = _
      by_cases c1 : i + 2 ≤ k
      · refine pass [(i : Int)] (word_cons.2 ⟨.inl (by omega), word_nil⟩) ?_
        exact (s_r_com hi (n - k) (by omega) c1).symm
      · by_cases c2 : k < i
        · refine pass [((i - 1 : Nat) : Int)] (word_cons.2 ⟨.inl (by omega), word_nil⟩) ?_
          exact r_s (n - k) (by omega) hk1 c2 hin
        · by_cases c3 : i = k
          · subst c3
            refine ⟨a, v, i + 1, ha, hv, by omega, by omega, ?_⟩
            rw [r_succ hin]
            simp only [g_assoc, g_inv', g_mul_one]
          · have : k = i + 1 := by omega
            subst this
            refine ⟨a * (mk v * A i * (mk v)⁻¹), v, i, ha.mul (conj_word hv _ (.gen hi hin)), hv, hi, by omega, ?_⟩
            rw [r_succ hin]
            unfold A
            simp only [g_assoc, g_c2, g_inv, g_mul_one]
    · obtain ⟨i, rfl⟩ : ∃ i : Nat, x = -(i : Int) := ⟨(-x).toNat, by omega⟩
      have hi : 1 ≤ i := by omega
      have hin : i < n := by omega
      by_cases c1 : i + 2 ≤ k
      · refine pass [-(i : Int)] (word_cons.2 ⟨.inr (by omega), word_nil⟩) ?_
        exact (s_r_com hi (n - k) (by omega) c1).symm.inv
      · by_cases c2 : k < i
        · refine pass [-((i - 1 : Nat) : Int)] (word_cons.2 ⟨.inr (by omega), word_nil⟩) ?_
          have e := r_s (n - k) (k := k) (by omega) hk1 c2 hin
          rw [s_inv, s_inv]
          apply g_right (c := s i)
          simp only [g_assoc, g_inv', g_mul_one]
          rw [e, g_c2]
        · by_cases c3 : i = k
          · subst c3
            refine ⟨a * (mk v * (A i)⁻¹ * (mk v)⁻¹), v, i + 1, ha.mul (conj_word hv _ (IsA.gen hi hin).inv), hv, by omega, by omega, ?_⟩
            rw [s_inv, r_succ hin]
            unfold A
            simp only [g_inv_mul, g_inv_inv, g_assoc, g_c2, g_inv', g_mul_one]
          · have : k = i + 1 := by omega
            subst this
            refine ⟨a, v, i, ha, hv, hi, by omega, ?_⟩
            rw [s_inv, r_succ hin]
            simp only [g_assoc]
end comb

end Bd
