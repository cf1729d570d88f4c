/- Plain mathematics: the determinant of a product of tables is the product of theirs. -/
import Derived.Test.YtjgmlicmjpgfcaaDoorMDet
namespace Pl
/- a value at M, the exponents moved by K -/
def pv (M K : Int) (l : List T) : Int := tot l fun x => M ^ (x + K).toNat
theorem pv_app (M K : Int) (a b : List T) : pv M K (a ++ b) = pv M K a + pv M K b := tot_app _ _ _
theorem pv_nil (M K : Int) : pv M K [] = 0 := rfl
theorem pv_sc (M K s : Int) (l : List T) : pv M K (sc s l) = s * pv M K l := by
  unfold pv
  induction l with
  | nil => simp [sc, tot_nil]
  | cons t l ih =>
    show tot ((t.1, s * t.2) :: sc s l) _ = _
    rw [tot_cons, tot_cons, ih, Int.mul_add, Int.mul_assoc]
theorem tot_on {l : List T} {f g : Int → Int} (h : ∀ t ∈ l, f t.1 = g t.1) : tot l f = tot l g := by
  induction l with
  | nil => rfl
  | cons t l ih => rw [tot_cons, tot_cons, h t (by simp), ih fun u hu => h u (by simp [hu])]
def Low (K : Int) (l : List T) : Prop := ∀ t ∈ l, -K ≤ t.1
theorem pv_mul {M K K' : Int} {a b : List T} (ha : Low K a) (hb : Low K' b) : pv M (K + K') (mul a b) = pv M K a * pv M K' b := by
  unfold pv
  rw [tot_prod]
  have h1 : tot a (fun x => tot b fun y => M ^ (x + y + (K + K')).toNat) = tot a fun x => tot b (fun y => M ^ (y + K').toNat) * M ^ (x + K).toNat := by
    refine tot_on fun s hs => ?_
    rw [Int.mul_comm, ← tot_mul]
    refine tot_on fun t ht => ?_
    have e1 := ha s hs
    have e2 := hb t ht
    rw [show (s.1 + t.1 + (K + K')).toNat = (s.1 + K).toNat + (t.1 + K').toNat from by omega, Int.pow_add]
  rw [h1, tot_mul, Int.mul_comm]
theorem low_mul {K K' : Int} {a b : List T} (ha : Low K a) (hb : Low K' b) : Low (K + K') (mul a b) := by
  intro t ht
  simp only [mul, List.mem_flatMap, List.mem_map] at ht
  obtain ⟨x, hx, y, hy, rfl⟩ := ht
  have h1 := ha x hx
  have h2 := hb y hy
  show -(K + K') ≤ x.1 + y.1
  omega
/- one of least exponent -/
theorem least : ∀ {l : List T}, l ≠ [] → ∃ t ∈ l, ∀ u ∈ l, t.1 ≤ u.1
  | [], h => absurd rfl h
  | [t], _ => ⟨t, by simp, fun u hu => by rw [List.mem_singleton] at hu; subst hu; exact Int.le_refl _⟩
  | t :: u :: l, _ => by
    obtain ⟨v, hv, h⟩ := least (l := u :: l) (by simp)
    by_cases c : t.1 ≤ v.1
    · exact ⟨t, by simp, fun x hx => by
        rcases List.mem_cons.1 hx with rfl | hx
        · exact Int.le_refl _
        · have := h x hx; omega⟩
    · exact ⟨v, List.mem_cons_of_mem _ hv, fun x hx => by
        rcases List.mem_cons.1 hx with rfl | hx
        · omega
        · exact h x hx⟩
theorem tot_dvd {l : List T} {f : Int → Int} {d : Int} (h : ∀ t ∈ l, d ∣ f t.1) : d ∣ tot l f := by
  induction l with
  | nil => exact ⟨0, by simp [tot_nil]⟩
  | cons t l ih =>
    rw [tot_cons]
    exact Int.dvd_add (Int.dvd_mul_of_dvd_right (h t (by simp))) (ih fun u hu => h u (by simp [hu]))
theorem pv_inj {M K : Int} : ∀ (n : Nat) (d : List T), d.length ≤ n → Low K d → (size d : Int) < M → pv M K d = 0 → ∀ e, co d e = 0
  | _, [], _, _, _, _, e => rfl
  | 0, _ :: _, h, _, _, _, _ => by simp at h
  | n + 1, t :: l, hn, hl, hs, h0, e => by
    obtain ⟨v, hv, hmin⟩ := least (l := t :: l) (by simp)
    have hM : 0 < M := by omega
    have h1 := tot_out v.1 (fun x => M ^ (x + K).toNat) (t :: l)
    have hgt : ∀ u ∈ out v.1 (t :: l), v.1 < u.1 := fun u hu => by
      simp only [out, List.mem_filter] at hu
      have h2 := hmin u hu.1
      have h3 : u.1 ≠ v.1 := by simpa using hu.2
      omega
    have hdv : M ^ (v.1 + K).toNat * M ∣ tot (out v.1 (t :: l)) fun x => M ^ (x + K).toNat := by
      refine tot_dvd fun u hu => ?_
      have h2 := hgt u hu
      have h3 := hl v hv
      rw [show (u.1 + K).toNat = (v.1 + K).toNat + 1 + (u.1 - v.1 - 1).toNat from by omega, Int.pow_add, Int.pow_succ]
      exact ⟨_, rfl⟩
    obtain ⟨q, hq⟩ := hdv
    have hz : co (t :: l) v.1 + M * q = 0 := by
      have h2 : M ^ (v.1 + K).toNat * (co (t :: l) v.1 + M * q) = 0 := by
        have : tot (t :: l) (fun x => M ^ (x + K).toNat) = 0 := h0
        rw [hq, this] at h1
        rw [Int.mul_add, ← Int.mul_assoc, Int.mul_comm _ (co _ _)]
        exact h1.symm
      rcases Int.mul_eq_zero.1 h2 with h3 | h3
      · exact absurd h3 (Int.ne_of_gt (Int.pow_pos hM))
      · exact h3
    have hc0 : co (t :: l) v.1 = 0 := by
      have hb := co_le (t :: l) v.1
      rcases Int.lt_trichotomy q 0 with c | c | c
      · have : M * q ≤ M * (-1) := Int.mul_le_mul_of_nonneg_left (by omega) (by omega)
        omega
      · subst c; simpa using hz
      · have : M * 1 ≤ M * q := Int.mul_le_mul_of_nonneg_left (by omega) (by omega)
        omega
    have hsz := size_out v.1 (t :: l)
    have hlen : (out v.1 (t :: l)).length ≤ n := by
      have h4 : (out v.1 (t :: l)).length < (t :: l).length := by
        unfold out
        refine List.length_filter_lt_length_iff_exists.2 ⟨v, hv, by simp⟩
      have h5 : (t :: l).length ≤ n + 1 := hn
      omega
    have h6 := pv_inj (M := M) (K := K) n (out v.1 (t :: l)) hlen (fun u hu => hl u (by simp only [out, List.mem_filter] at hu; exact hu.1)) (by omega) (by
      have : tot (t :: l) (fun x => M ^ (x + K).toNat) = 0 := h0
      rw [this, hc0] at h1
      show tot (out v.1 (t :: l)) (fun x => M ^ (x + K).toNat) = 0
      omega) e
    rw [co_out] at h6
    by_cases c : e = v.1
    · rw [c]; exact hc0
    · rwa [if_neg c] at h6
theorem size_neg (l : List T) : size (neg l) = size l := by
  induction l with
  | nil => rfl
  | cons t l ih =>
    show size ((t.1, -t.2) :: neg l) = _
    rw [size_cons, size_cons, ih]
    show (-t.2).natAbs + _ = _
    omega
theorem pv_same {K : Int} {l m : List T} (hl : Low K l) (hm : Low K m) (h : ∀ M : Int, pv M K l = pv M K m) (e : Int) : co l e = co m e := by
  have h1 := pv_inj (M := (size (l ++ neg m) : Int) + 1) (K := K) _ (l ++ neg m) (Nat.le_refl _) (fun t ht => by
    rcases List.mem_append.1 ht with ht | ht
    · exact hl t ht
    · obtain ⟨u, hu, rfl⟩ := List.mem_map.1 ht
      exact hm u hu) (by omega) (by
    rw [pv_app]
    have : pv ((size (l ++ neg m) : Int) + 1) K (neg m) = -pv ((size (l ++ neg m) : Int) + 1) K m := tot_neg _ _
    rw [this, h]; omega) e
  rw [co_app] at h1
  have : co (neg m) e = -co m e := tot_neg _ _
  omega

/- values of the table of sets -/
theorem tbF_at (m : Tab) {s : Nat} (hs : s < 8) : ∀ d, tbF m (pop s + d) s = tbF m (pop s) s
  | 0 => rfl
  | d + 1 => by
    rw [show pop s + (d + 1) = pop s + d + 1 from rfl, tbF_more m _ s hs (by omega)]
    exact tbF_at m hs d
theorem tb_at (m : Tab) {s : Nat} (hs : s < 8) : tb m s = tbF m (pop s) s := by
  have hp : pop s ≤ 3 := by
    unfold pop
    exact Nat.le_trans List.countP_le_length (by simp)
  unfold tb
  rw [← tbF_at m hs (3 - pop s), show pop s + (3 - pop s) = 3 from by omega]
theorem tb_low {m : Tab} {c : Nat} {E : Int} (h : Within m c E) (hE : 0 ≤ E) {s : Nat} (hs : s < 8) : Low ((pop s : Int) * E) (tb m s) := by
  intro t ht
  rw [tb_at m hs] at ht
  exact (tbF_exps h hE _ _ t ht).1
/- the sum over the places of a set -/
def pt (M E : Int) (m : Tab) (s k : Nat) : Int := if s.testBit k then sg (pop (s >>> (k + 1))) * (pv M E (ent m (pop s - 1) k) * pv M ((pop (s - 2 ^ k) : Int) * E) (tb m (s - 2 ^ k))) else 0
theorem pv_term {M : Int} {m : Tab} {c : Nat} {E : Int} (h : Within m c E) (hE : 0 ≤ E) {s k : Nat} (hs : s < 8) (hk : k < 3) : pv M ((pop s : Int) * E) (term m (tb m) s k) = pt M E m s k := by
  unfold term pt
  split
  · have hp := pop_less hs hk (by assumption)
    have e : (pop s : Int) * E = E + (pop (s - 2 ^ k) : Int) * E := by
      rw [← hp.1, Int.natCast_add, Int.add_mul]; simp; omega
    rw [pv_sc, e, pv_mul (fun t ht => ((h _ _).2 t ht).1) (tb_low h hE (by omega))]
  · rfl
theorem pv_tb {M : Int} {m : Tab} {c : Nat} {E : Int} (h : Within m c E) (hE : 0 ≤ E) {s : Nat} (hs : s < 8) (h0 : s ≠ 0) : pv M ((pop s : Int) * E) (tb m s) = pt M E m s 0 + pt M E m s 1 + pt M E m s 2 := by
  rw [tb_eq m hs h0]
  simp only [outF, pv_app, pv_nil]
  rw [pv_term h hE hs (by omega), pv_term h hE hs (by omega), pv_term h hE hs (by omega)]
  omega
theorem pv_zero (M E : Int) (m : Tab) : pv M ((pop 0 : Int) * E) (tb m 0) = 1 := by
  have e : (pop 0 : Int) * E = 0 := by
    have : pop 0 = 0 := by decide
    rw [this]; simp
  rw [e, tb_zero]
  simp [pv, tot_cons, tot_nil]
/- the determinant of nine numbers -/
def det9 (a b c d e f g h i : Int) : Int := g * (f * b - e * c) - h * (f * a - d * c) + i * (e * a - d * b)
def V (M E : Int) (m : Tab) (i j : Nat) : Int := pv M E (ent m i j)
theorem pv_det {M : Int} {m : Tab} {c : Nat} {E : Int} (h : Within m c E) (hE : 0 ≤ E) :
    pv M (3 * E) (tb m 7) = det9 (V M E m 0 0) (V M E m 0 1) (V M E m 0 2) (V M E m 1 0) (V M E m 1 1) (V M E m 1 2) (V M E m 2 0) (V M E m 2 1) (V M E m 2 2) := by
  have p0 : pop 0 = 0 := by decide
  have p1 : pop 1 = 1 := by decide
  have p2 : pop 2 = 1 := by decide
  have p3 : pop 3 = 2 := by decide
  have p4 : pop 4 = 1 := by decide
  have p5 : pop 5 = 2 := by decide
  have p6 : pop 6 = 2 := by decide
  have p7 : pop 7 = 3 := by decide
  have z := pv_zero M E m
  have t1 := pv_tb (M := M) h hE (s := 1) (by omega) (by omega)
  have t2 := pv_tb (M := M) h hE (s := 2) (by omega) (by omega)
  have t3 := pv_tb (M := M) h hE (s := 3) (by omega) (by omega)
  have t4 := pv_tb (M := M) h hE (s := 4) (by omega) (by omega)
  have t5 := pv_tb (M := M) h hE (s := 5) (by omega) (by omega)
  have t6 := pv_tb (M := M) h hE (s := 6) (by omega) (by omega)
  have t7 := pv_tb (M := M) h hE (s := 7) (by omega) (by omega)
  have g0 : sg 0 = 1 := by decide
  have g1 : sg 1 = -1 := by decide
  have g2 : sg 2 = 1 := by decide
  have tb00 : Nat.testBit 1 0 = true := by decide
  simp only [pt, p0, p1, p2, p3, p4, p5, p6, p7, show Nat.testBit 1 0 = true from by decide, show Nat.testBit 1 1 = false from by decide, show Nat.testBit 1 2 = false from by decide,
    show Nat.testBit 2 0 = false from by decide, show Nat.testBit 2 1 = true from by decide, show Nat.testBit 2 2 = false from by decide,
    show Nat.testBit 3 0 = true from by decide, show Nat.testBit 3 1 = true from by decide, show Nat.testBit 3 2 = false from by decide,
    show Nat.testBit 4 0 = false from by decide, show Nat.testBit 4 1 = false from by decide, show Nat.testBit 4 2 = true from by decide,
    show Nat.testBit 5 0 = true from by decide, show Nat.testBit 5 1 = false from by decide, show Nat.testBit 5 2 = true from by decide,
    show Nat.testBit 6 0 = false from by decide, show Nat.testBit 6 1 = true from by decide, show Nat.testBit 6 2 = true from by decide,
    show Nat.testBit 7 0 = true from by decide, show Nat.testBit 7 1 = true from by decide, show Nat.testBit 7 2 = true from by decide,
    if_true, Bool.false_eq_true, if_false, Nat.reducePow, Nat.reduceSub, Nat.reduceAdd, Nat.reduceShiftRight, g0, g1, g2] at z t1 t2 t3 t4 t5 t6 t7
  have e3 : ((3 : Nat) : Int) * E = 3 * E := rfl
  rw [e3] at t7
  rw [t7, t6, t5, t3, t4, t2, t1, z]
  unfold det9 V
  grind
theorem det9_mul (a0 a1 a2 a3 a4 a5 a6 a7 a8 b0 b1 b2 b3 b4 b5 b6 b7 b8 : Int) :
    det9 (a0*b0+a1*b3+a2*b6) (a0*b1+a1*b4+a2*b7) (a0*b2+a1*b5+a2*b8) (a3*b0+a4*b3+a5*b6) (a3*b1+a4*b4+a5*b7) (a3*b2+a4*b5+a5*b8) (a6*b0+a7*b3+a8*b6) (a6*b1+a7*b4+a8*b7) (a6*b2+a7*b5+a8*b8) =
      det9 a0 a1 a2 a3 a4 a5 a6 a7 a8 * det9 b0 b1 b2 b3 b4 b5 b6 b7 b8 := by
  unfold det9
  grind
/- the law -/
theorem det_mul {a b p : Tab} {ca cb cp : Nat} (ha : Within a ca 4) (hb : Within b cb 4) (hp : Within p cp 8)
    (hpe : ∀ i j, i < 3 → j < 3 → ∀ e, co (ent p i j) e = co (mul (ent a i 0) (ent b 0 j) ++ (mul (ent a i 1) (ent b 1 j) ++ mul (ent a i 2) (ent b 2 j))) e) (e : Int) :
    co (tb p 7) e = co (mul (tb a 7) (tb b 7)) e := by
  have pop7 : pop 7 = 3 := by decide
  have la : Low 12 (tb a 7) := by have := tb_low ha (by omega) (s := 7) (by omega); rw [pop7] at this; exact this
  have lb : Low 12 (tb b 7) := by have := tb_low hb (by omega) (s := 7) (by omega); rw [pop7] at this; exact this
  have lp : Low 24 (tb p 7) := by have := tb_low hp (by omega) (s := 7) (by omega); rw [pop7] at this; exact this
  refine pv_same lp (low_mul la lb) (fun M => ?_) e
  have hV : ∀ i j, i < 3 → j < 3 → V M 8 p i j = V M 4 a i 0 * V M 4 b 0 j + V M 4 a i 1 * V M 4 b 1 j + V M 4 a i 2 * V M 4 b 2 j := by
    intro i j hi hj
    have h1 : V M 8 p i j = pv M 8 (mul (ent a i 0) (ent b 0 j) ++ (mul (ent a i 1) (ent b 1 j) ++ mul (ent a i 2) (ent b 2 j))) := by
      unfold V pv
      exact tot_congr (hpe i j hi hj) _
    have h2 : ∀ k, pv M 8 (mul (ent a i k) (ent b k j)) = V M 4 a i k * V M 4 b k j := fun k => pv_mul (K := 4) (K' := 4) (fun t ht => ((ha i k).2 t ht).1) (fun t ht => ((hb k j).2 t ht).1)
    rw [h1, pv_app, pv_app, h2, h2, h2]
    omega
  have hd1 := pv_det (M := M) ha (by omega)
  have hd2 := pv_det (M := M) hb (by omega)
  have hd3 := pv_det (M := M) hp (by omega)
  have hm : pv M (12 + 12) (mul (tb a 7) (tb b 7)) = pv M 12 (tb a 7) * pv M 12 (tb b 7) := pv_mul la lb
  show pv M 24 (tb p 7) = pv M 24 _
  rw [show (24 : Int) = 3 * 8 from rfl, hd3, show (3 * 8 : Int) = 12 + 12 from rfl, hm, show (12 : Int) = 3 * 4 from rfl, hd1, hd2]
  rw [hV 0 0 (by omega) (by omega), hV 0 1 (by omega) (by omega), hV 0 2 (by omega) (by omega), hV 1 0 (by omega) (by omega), hV 1 1 (by omega) (by omega), hV 1 2 (by omega) (by omega), hV 2 0 (by omega) (by omega), hV 2 1 (by omega) (by omega), hV 2 2 (by omega) (by omega)]
  exact det9_mul _ _ _ _ _ _ _ _ _ _ _ _ _ _ _ _ _ _
end Pl
