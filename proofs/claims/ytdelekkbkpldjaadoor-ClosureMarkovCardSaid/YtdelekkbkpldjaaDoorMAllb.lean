/- Plain mathematics of diagrams, joined. -/
import Derived.Test.YtdelekkbkpldjaaDoorMAlla
/- The rows of a closed word's levels, plain: solved for, they tell one less the word's table; merged, they are the rows of the diagram. -/
namespace Go.Proofs.YtdelekkbkpldjaaDoor.Kn
set_option linter.unusedVariables false

/-- One level on: the forms of the places behind a letter. -/
def stepF (t : Rat) (a : Int) (x : Nat → Row) : Nat → Row := fun p =>
  let i := a.natAbs - 1
  if 0 < a then (if p = i then fun b => t * x (i + 1) b + (1 - t) * x i b else if p = i + 1 then x i else x p)
  else (if p = i then x (i + 1) else if p = i + 1 then fun b => t⁻¹ * (x i b + (t - 1) * x (i + 1) b) else x p)
def levF (t : Rat) (w : List Int) : Nat → Nat → Row
  | 0 => unit
  | k + 1 => stepF t (w.getD k 0) (levF t w k)

/-- The row of a place behind a letter; u are its unknowns ahead, v those behind. -/
def rhoP (t : Rat) (i : Nat) (u v : Nat → Nat) : Row := fun z => unit (v i) z + -t * unit (u (i + 1)) z + (t - 1) * unit (v (i + 1)) z
def rhoM (t : Rat) (i : Nat) (u v : Nat → Nat) : Row := fun z => unit (u i) z + -t * unit (v (i + 1)) z + (t - 1) * unit (u (i + 1)) z
def rho (t : Rat) (a : Int) (u v : Nat → Nat) : Row := if 0 < a then rhoP t (a.natAbs - 1) u v else rhoM t (a.natAbs - 1) u v
/-- Where the row of the strand below stands, and what the other places are the same as. -/
def lowAt (a : Int) : Nat := if 0 < a then a.natAbs - 1 else a.natAbs
def sameAs (a : Int) (p : Nat) : Nat := if 0 < a then (if p = a.natAbs then a.natAbs - 1 else p) else (if p = a.natAbs - 1 then a.natAbs else p)
def lrow (t : Rat) (a : Int) (u v : Nat → Nat) (p : Nat) : Row := if p = lowAt a then rho t a u v else eqr (v p, u (sameAs a p))

structure Let (n : Nat) (a : Int) : Prop where
  ne : a ≠ 0
  lt : a.natAbs < n

theorem put_lin (vs : List Nat) (X : Nat → Row) (r s : Row) (a b : Rat) (z : Nat) : put vs X (fun v => a * r v + b * s v) z = a * put vs X r z + b * put vs X s z := by
  unfold put
  rw [show (fun v => (a * r v + b * s v) * X v z) = fun v => a * (r v * X v z) + b * (s v * X v z) from funext fun v => by grind, sum_add, sum_smul, sum_smul]
theorem put_unit {vs : List Nat} (hn : vs.Nodup) (X : Nat → Row) {b : Nat} (hb : b ∈ vs) (z : Nat) : put vs X (unit b) z = X b z := by
  have key : ∀ l : List Nat, l.Nodup → put l X (unit b) z = if b ∈ l then X b z else 0 := by
    intro l hl
    induction l with
    | nil => simp [put]
    | cons c l ih =>
      rw [put_cons, ih (List.nodup_cons.1 hl).2, unit]
      by_cases hc : c = b
      · subst hc; rw [if_pos rfl, if_neg (List.nodup_cons.1 hl).1, if_pos List.mem_cons_self]; grind
      · rw [if_neg hc]
        by_cases hbl : b ∈ l
        · rw [if_pos hbl, if_pos (List.mem_cons_of_mem _ hbl)]; grind
        · rw [if_neg hbl, if_neg fun hm => (List.mem_cons.1 hm).elim (fun e => hc e.symm) hbl]; grind
  rw [key vs hn, if_pos hb]
theorem put_eqr {vs : List Nat} (hn : vs.Nodup) (X : Nat → Row) {e : Nat × Nat} (h1 : e.1 ∈ vs) (h2 : e.2 ∈ vs) (z : Nat) : put vs X (eqr e) z = X e.1 z - X e.2 z := by
  have := put_lin vs X (unit e.1) (unit e.2) 1 (-1) z
  rw [put_unit hn X h1, put_unit hn X h2] at this
  rw [show eqr e = fun v => 1 * unit e.1 v + -1 * unit e.2 v from funext fun v => by unfold eqr; grind, this]
  grind
theorem put_three {vs : List Nat} (hn : vs.Nodup) (X : Nat → Row) {a b c : Nat} (ha : a ∈ vs) (hb : b ∈ vs) (hc : c ∈ vs) (m l : Rat) (z : Nat) :
    put vs X (fun v => unit a v + m * unit b v + l * unit c v) z = X a z + m * X b z + l * X c z := by
  have h1 := put_lin vs X (unit a) (unit b) 1 m z
  have h2 := put_lin vs X (fun v => 1 * unit a v + m * unit b v) (unit c) 1 l z
  rw [put_unit hn X ha, put_unit hn X hb] at h1
  rw [put_unit hn X hc, h1] at h2
  rw [show (fun v => unit a v + m * unit b v + l * unit c v) = fun v => 1 * (1 * unit a v + m * unit b v) + l * unit c v from funext fun v => by grind, h2]
  grind

/-- The forms of the levels solve the rows of the levels. -/
theorem put_lrow {t : Rat} (ht : t ≠ 0) {n : Nat} {a : Int} (ha : Let n a) {vs : List Nat} (hn : vs.Nodup) {X : Nat → Row} {u v : Nat → Nat} (hu : ∀ p, p < n → u p ∈ vs) (hv : ∀ p, p < n → v p ∈ vs)
    {x : Nat → Row} (hx : ∀ p, p < n → X (u p) = x p) (hy : ∀ p, p < n → X (v p) = stepF t a x p) {p : Nat} (hp : p < n) (z : Nat) : put vs X (lrow t a u v p) z = 0 := by
  have h0 : a.natAbs ≠ 0 := fun e => ha.ne (Int.natAbs_eq_zero.1 e)
  have h1 := ha.lt
  have hi : a.natAbs - 1 + 1 = a.natAbs := by omega
  have hi1 : a.natAbs - 1 < n := by omega
  unfold lrow
  by_cases hl : p = lowAt a
  · rw [if_pos hl]
    unfold rho
    by_cases hs : 0 < a
    · rw [if_pos hs]
      unfold rhoP
      rw [put_three hn X (hv _ hi1) (hu _ (by omega)) (hv _ (by omega)), hy _ hi1, hx _ (by omega), hy _ (by omega)]
      simp only [stepF, if_pos hs, if_true, if_neg (show ¬ a.natAbs - 1 + 1 = a.natAbs - 1 by omega)]
      grind
    · rw [if_neg hs]
      unfold rhoM
      rw [put_three hn X (hu _ hi1) (hv _ (by omega)) (hu _ (by omega)), hx _ hi1, hy _ (by omega), hx _ (by omega)]
      simp only [stepF, if_neg hs, if_true, if_neg (show ¬ a.natAbs - 1 + 1 = a.natAbs - 1 by omega)]
      grind
  · rw [if_neg hl]
    have hsn : sameAs a p < n := by unfold sameAs; split <;> split <;> omega
    rw [put_eqr hn X (hv p hp) (hu _ hsn), hy p hp, hx _ hsn]
    unfold lowAt at hl
    unfold sameAs stepF
    by_cases hs : 0 < a
    · simp only [if_pos hs] at hl ⊢
      rw [if_neg hl]
      by_cases h : p = a.natAbs
      · rw [if_pos (by omega), if_pos h]; grind
      · rw [if_neg (by omega), if_neg h]; grind
    · simp only [if_neg hs] at hl ⊢
      by_cases h : p = a.natAbs - 1
      · rw [if_pos h, if_pos h, hi]; grind
      · rw [if_neg h, if_neg h, if_neg (by omega)]; grind
end Go.Proofs.YtdelekkbkpldjaaDoor.Kn

/- The rows of a closed word's levels, plain: what is left out may be exchanged. -/
namespace Go.Proofs.YtdelekkbkpldjaaDoor.Kn
set_option linter.unusedVariables false

/-- Units: powers of t, but for their sign. -/
def Un (t x : Rat) : Prop := ∃ (e : Rat) (m : Int), Sg e ∧ x = e * t ^ m
theorem Un.one (t : Rat) : Un t 1 := ⟨1, 0, Or.inl rfl, by simp⟩
theorem Un.neg_one (t : Rat) : Un t (-1) := ⟨-1, 0, Or.inr rfl, by simp⟩
theorem Un.sg {t e : Rat} (h : Sg e) : Un t e := by rcases h with rfl | rfl; exact .one t; exact .neg_one t
theorem Un.self (t : Rat) : Un t t := ⟨1, 1, Or.inl rfl, by rw [Rat.zpow_one]; grind⟩
theorem Un.mul {t x y : Rat} (ht : t ≠ 0) (h : Un t x) (k : Un t y) : Un t (x * y) := by
  obtain ⟨e, m, he, rfl⟩ := h
  obtain ⟨e', m', he', rfl⟩ := k
  exact ⟨e * e', m + m', he.mul he', by rw [Rat.zpow_add ht]; grind⟩
theorem Un.ne {t x : Rat} (ht : t ≠ 0) (h : Un t x) : x ≠ 0 := by
  obtain ⟨e, m, he, rfl⟩ := h
  intro k
  have h1 : t ^ (m + -m) = t ^ m * t ^ (-m) := Rat.zpow_add ht m (-m)
  rw [Int.add_right_neg, Rat.zpow_zero] at h1
  rcases he with rfl | rfl <;> grind
theorem Un.inv {t x : Rat} (ht : t ≠ 0) (h : Un t x) : ∃ y, Un t y ∧ y * x = 1 := by
  obtain ⟨e, m, he, rfl⟩ := h
  refine ⟨e * t ^ (-m), ⟨e, -m, he, rfl⟩, ?_⟩
  have h1 : t ^ (m + -m) = t ^ m * t ^ (-m) := Rat.zpow_add ht m (-m)
  rw [Int.add_right_neg, Rat.zpow_zero] at h1
  rcases he with rfl | rfl <;> grind
theorem Un.pow {t : Rat} (ht : t ≠ 0) : ∀ p : Nat, Un t (t ^ p)
  | 0 => by rw [Rat.pow_zero]; exact .one t
  | p + 1 => by rw [Rat.pow_succ]; exact (Un.pow ht p).mul ht (.self t)
theorem Un.neg {t x : Rat} (ht : t ≠ 0) (h : Un t x) : Un t (-x) := by
  have := (Un.neg_one t).mul ht h
  rwa [show -1 * x = -x by grind] at this
theorem Un.prd {t : Rat} (ht : t ≠ 0) : ∀ {l : List Rat}, (∀ x ∈ l, Un t x) → Un t (Kn.prd l)
  | [], _ => .one t
  | x :: l, h => (h x List.mem_cons_self).mul ht (Un.prd ht fun y hy => h y (List.mem_cons_of_mem _ hy))
/-- The same but for a unit. -/
def Eu (t x y : Rat) : Prop := ∃ c, Un t c ∧ x = c * y
theorem Eu.refl (t x : Rat) : Eu t x x := ⟨1, .one t, by grind⟩
theorem Eu.symm {t x y : Rat} (ht : t ≠ 0) (h : Eu t x y) : Eu t y x := by
  obtain ⟨c, hc, rfl⟩ := h
  obtain ⟨d, hd, e⟩ := hc.inv ht
  exact ⟨d, hd, by grind⟩
theorem Eu.trans {t x y z : Rat} (ht : t ≠ 0) (h : Eu t x y) (k : Eu t y z) : Eu t x z := by
  obtain ⟨c, hc, rfl⟩ := h
  obtain ⟨d, hd, rfl⟩ := k
  exact ⟨c * d, hc.mul ht hd, by grind⟩
theorem Eu.un {t c y : Rat} (h : Un t c) : Eu t (c * y) y := ⟨c, h, rfl⟩
theorem Eu.zero {t x : Rat} (h : Eu t x 0) : x = 0 := by obtain ⟨c, _, rfl⟩ := h; grind
theorem Eu.rows {t : Rat} {rs rs' : List Row} (h : rs.Perm rs') (vs : List Nat) : Eu t (Dv rs vs) (Dv rs' vs) := by
  obtain ⟨e, he, k⟩ := Dv_rows h
  exact ⟨e, .sg he, k vs⟩

theorem Sp.congr {vs : List Nat} {rs : List Row} {u w : Row} (h : Sp vs rs u) (e : ∀ v ∈ vs, w v = u v) : Sp vs rs w := by
  cases h with
  | zero h => exact .zero fun v hv => by rw [e v hv, h v hv]
  | add m h hr hw => exact .add m h hr fun v hv => by rw [e v hv, hw v hv]
theorem Sp.plus {vs : List Nat} {rs : List Row} {u w : Row} (h : Sp vs rs u) (k : Sp vs rs w) : Sp vs rs fun v => u v + w v := by
  induction k with
  | zero k => exact h.congr fun v hv => by rw [k v hv]; grind
  | add m _ hr hw ih => exact .add m ih hr fun v hv => by rw [hw v hv]; grind
theorem Sp.smul {vs : List Nat} {rs : List Row} {u : Row} (c : Rat) (h : Sp vs rs u) : Sp vs rs fun v => c * u v := by
  induction h with
  | zero k => exact .zero fun v hv => by rw [k v hv]; grind
  | add m _ hr hw ih => exact .add (c * m) ih hr fun v hv => by rw [hw v hv]; grind
theorem Sp.mem {vs : List Nat} {rs : List Row} {r : Row} (h : r ∈ rs) : Sp vs rs r := .add 1 (.zero (u := fun _ => 0) fun _ _ => rfl) h fun v _ => by grind
theorem Sp.mono {vs : List Nat} {rs rs' : List Row} {u : Row} (h : Sp vs rs u) (k : ∀ r ∈ rs, r ∈ rs') : Sp vs rs' u := by
  induction h with
  | zero h => exact .zero h
  | add m _ hr hw ih => exact .add m ih (k _ hr) hw
theorem Sp.sum {vs : List Nat} {rs : List Row} (c : Nat → Rat) (r : Nat → Row) : ∀ l : List Nat, (∀ p ∈ l, r p ∈ rs) → Sp vs rs fun v => (l.map fun p => c p * r p v).sum
  | [], _ => .zero fun v _ => rfl
  | p :: l, h => (((Sp.mem (h p List.mem_cons_self)).smul (c p)).plus (Sp.sum c r l fun q hq => h q (List.mem_cons_of_mem _ hq))).congr fun v _ => by simp
/-- Rows that tell the same beside the others take one another's place. -/
theorem Eu.exch {t : Rat} (ht : t ≠ 0) {vs : List Nat} {n r s : Row} {rs : List Row} {c d : Rat} (hc : Un t c) (hd : Un t d) (h : Sp vs rs fun v => c * r v - d * s v) : Eu t (Dv (n :: r :: rs) vs) (Dv (n :: s :: rs) vs) := by
  obtain ⟨c', hc', e⟩ := hc.inv ht
  have h1 : Sp vs (n :: rs) fun v => r v - (c' * d) * s v := ((h.smul c').mono fun r hr => List.mem_cons_of_mem _ hr).congr fun v _ => by grind
  have h2 := Dv_exch _ h1
  have e1 : Dv (n :: r :: rs) vs = - Dv (r :: n :: rs) vs := D_swap _ _ _ _
  have e2 : Dv (n :: s :: rs) vs = - Dv (s :: n :: rs) vs := D_swap _ _ _ _
  exact ⟨c' * d, hc'.mul ht hd, by rw [e1, e2, h2]; grind⟩

theorem sum_two {g h : Nat → Rat} {i : Nat} : ∀ {n : Nat}, i + 1 < n → (∀ p, p < n → p ≠ i → p ≠ i + 1 → g p = h p) → g i + g (i + 1) = h i + h (i + 1) → ((List.range n).map g).sum = ((List.range n).map h).sum
  | 0, hi, _, _ => by omega
  | n + 1, hi, he, h2 => by
    rw [List.range_succ, List.map_append, List.map_append, List.sum_append, List.sum_append]
    simp only [List.map_cons, List.map_nil, List.sum_cons, List.sum_nil]
    by_cases hn : n = i + 1
    · subst hn
      have : ((List.range i).map g).sum = ((List.range i).map h).sum := sum_congr fun p hp => he p (by have := List.mem_range.1 hp; omega) (by have := List.mem_range.1 hp; omega) (by have := List.mem_range.1 hp; omega)
      rw [List.range_succ, List.map_append, List.map_append, List.sum_append, List.sum_append, this]
      simp only [List.map_cons, List.map_nil, List.sum_cons, List.sum_nil]
      grind
    · rw [sum_two (by omega) (fun p hp => he p (by omega)) h2, he n (by omega) (by omega) (by omega)]

/-- The weight of a level. -/
def zz (t : Rat) (n : Nat) (u : Nat → Nat) : Row := fun z => ((List.range n).map fun p => t ^ p * unit (u p) z).sum
def wt (t : Rat) (a : Int) (p : Nat) : Rat := if p = lowAt a then (if 0 < a then t ^ (a.natAbs - 1) else - t ^ (a.natAbs - 1)) else if p = a.natAbs - 1 ∨ p = a.natAbs then t ^ (a.natAbs - 1) else t ^ p
theorem wt_un {t : Rat} (ht : t ≠ 0) (a : Int) (p : Nat) : Un t (wt t a p) := by
  unfold wt
  split
  · split
    · exact .pow ht _
    · exact (Un.pow ht _).neg ht
  · split <;> exact .pow ht _
theorem zz_step {t : Rat} {n : Nat} {a : Int} (ha : Let n a) (u v : Nat → Nat) (z : Nat) : zz t n v z - zz t n u z = ((List.range n).map fun p => wt t a p * lrow t a u v p z).sum := by
  have h0 : a.natAbs ≠ 0 := fun e => ha.ne (Int.natAbs_eq_zero.1 e)
  have h1 := ha.lt
  have hi : a.natAbs - 1 + 1 = a.natAbs := by omega
  have e0 : zz t n v z - zz t n u z = ((List.range n).map fun p => t ^ p * (unit (v p) z - unit (u p) z)).sum := by
    unfold zz
    have : (fun p => t ^ p * (unit (v p) z - unit (u p) z)) = fun p => t ^ p * unit (v p) z + (-1) * (t ^ p * unit (u p) z) := funext fun p => by grind
    rw [this, sum_add, sum_smul]; grind
  rw [e0]
  have hpw : t ^ a.natAbs = t ^ (a.natAbs - 1) * t := by rw [← Rat.pow_succ, hi]
  refine sum_two (i := a.natAbs - 1) (by omega) (fun p hp p1 p2 => ?_) ?_
  · have hl : p ≠ lowAt a := by unfold lowAt; split <;> omega
    have hs : sameAs a p = p := by unfold sameAs; split <;> first | rfl | (split <;> omega)
    rw [wt, if_neg hl, if_neg (by omega), lrow, if_neg hl, hs]
    rfl
  · rw [hi]
    by_cases hs : 0 < a
    · have l1 : lowAt a = a.natAbs - 1 := by unfold lowAt; rw [if_pos hs]
      rw [wt, if_pos l1.symm, if_pos hs, wt, if_neg (by omega), if_pos (Or.inr rfl), lrow, if_pos l1.symm, lrow, if_neg (by omega), rho, if_pos hs, rhoP, sameAs, if_pos hs, if_pos rfl, hpw, hi]
      unfold eqr
      grind
    · have l1 : lowAt a = a.natAbs := by unfold lowAt; rw [if_neg hs]
      rw [wt, if_neg (by omega), if_pos (Or.inl rfl), wt, if_pos l1.symm, if_neg hs, lrow, if_neg (by omega), lrow, if_pos l1.symm, rho, if_neg hs, rhoM, sameAs, if_neg hs, if_pos rfl, hpw, hi]
      unfold eqr
      grind
end Go.Proofs.YtdelekkbkpldjaaDoor.Kn

/- A closed word's rows all together, plain: what they tell is what the word's table tells; merged, it is what the diagram's rows tell. -/
namespace Go.Proofs.YtdelekkbkpldjaaDoor.Kn
set_option linter.unusedVariables false

abbrev lv (n k : Nat) : Nat → Nat := fun p => k * n + p
def brow (t : Rat) (n : Nat) (w : List Int) (k p : Nat) : Row := lrow t (w.getD k 0) (lv n k) (lv n (k + 1)) p
def VV (n : Nat) (w : List Int) : List Nat := List.range ((w.length + 1) * n)
def kap (n : Nat) (w : List Int) (p : Nat) : Row := eqr (lv n w.length p, lv n 0 p)
def AA (t : Rat) (w : List Int) (p : Nat) : Row := fun z => levF t w w.length p z - unit p z
def but (n p : Nat) : List Nat := (List.range n).erase p
/-- One less the word's table, without a row; another row instead. -/
def FA (t : Rat) (n : Nat) (w : List Int) (b p : Nat) : Rat := Dv (unit b :: (but n p).map (AA t w)) (List.range n)
def RR (t : Rat) (n : Nat) (w : List Int) (m : Nat) : List (Row × Nat) := (List.range m).flatMap fun k => (List.range n).reverse.map fun p => (brow t n w k p, lv n (k + 1) p)
def Lets (n : Nat) (w : List Int) : Prop := ∀ k, k < w.length → Let n (w.getD k 0)

theorem lv_inj {n k k' p p' : Nat} (hp : p < n) (hp' : p' < n) (e : lv n k p = lv n k' p') : k = k' ∧ p = p' := by
  have h1 : (k * n + p) / n = (k' * n + p') / n := by show lv n k p / n = lv n k' p' / n; rw [e]
  have h2 : (k * n + p) % n = (k' * n + p') % n := by show lv n k p % n = lv n k' p' % n; rw [e]
  have hn : 0 < n := by omega
  rw [Nat.mul_comm k, Nat.mul_comm k', Nat.mul_add_div hn, Nat.mul_add_div hn, Nat.div_eq_of_lt hp, Nat.div_eq_of_lt hp'] at h1
  rw [Nat.mul_comm k, Nat.mul_comm k', Nat.mul_add_mod, Nat.mul_add_mod, Nat.mod_eq_of_lt hp, Nat.mod_eq_of_lt hp'] at h2
  omega
theorem lv_div {n k p : Nat} (hp : p < n) : lv n k p / n = k ∧ lv n k p % n = p := by
  have hn : 0 < n := by omega
  show (k * n + p) / n = k ∧ (k * n + p) % n = p
  rw [Nat.mul_comm k, Nat.mul_add_div hn, Nat.div_eq_of_lt hp, Nat.mul_add_mod, Nat.mod_eq_of_lt hp]
  exact ⟨rfl, rfl⟩
theorem lv_mem {n : Nat} {w : List Int} {k p : Nat} (hk : k ≤ w.length) (hp : p < n) : lv n k p ∈ VV n w := by
  refine List.mem_range.2 ?_
  show k * n + p < (w.length + 1) * n
  have : k * n ≤ w.length * n := Nat.mul_le_mul_right n hk
  rw [Nat.succ_mul]
  omega

theorem RR_perm (t : Rat) (n : Nat) (w : List Int) : ∀ m, (List.range ((m + 1) * n)).Perm ((RR t n w m).map (·.2) ++ List.range n)
  | 0 => by simp [RR]
  | m + 1 => by
    have h1 : List.range ((m + 1 + 1) * n) = List.range ((m + 1) * n) ++ (List.range n).map ((m + 1) * n + ·) := by rw [Nat.succ_mul, List.range_add]
    have h2 : (RR t n w (m + 1)).map (·.2) = (RR t n w m).map (·.2) ++ (List.range n).reverse.map (lv n (m + 1)) := by
      unfold RR
      rw [List.range_succ, List.flatMap_append, List.map_append]
      simp [Function.comp_def]
    rw [h1, h2]
    have h3 : ((List.range n).reverse.map (lv n (m + 1))).Perm ((List.range n).map ((m + 1) * n + ·)) := (List.reverse_perm _).map _
    refine ((RR_perm t n w m).append_right _).trans ?_
    rw [List.append_assoc, List.append_assoc]
    refine List.Perm.append_left _ (List.perm_append_comm.trans (h3.symm.append_right _))

/-- What a row of a level reads behind its own unknown. -/
theorem brow_read {t : Rat} {n : Nat} {w : List Int} {k p k' p' : Nat} (ha : Let n (w.getD k 0)) (hp : p < n) (hp' : p' < n) (h : k < k' ∨ (k = k' ∧ p' < p)) : brow t n w k p (lv n (k' + 1) p') = 0 := by
  have h0 : (w.getD k 0).natAbs ≠ 0 := fun e => ha.ne (Int.natAbs_eq_zero.1 e)
  have h1 := ha.lt
  have hu : ∀ q, q < n → unit (lv n k q) (lv n (k' + 1) p') = 0 := fun q hq => if_neg fun e => by have := lv_inj hp' hq e; omega
  have hv : ∀ q, q < n → (k = k' → q ≠ p') → unit (lv n (k + 1) q) (lv n (k' + 1) p') = 0 := fun q hq hne => if_neg fun e => by have := lv_inj hp' hq e; omega
  unfold brow lrow
  split
  · next hl =>
    unfold lowAt at hl
    unfold rho
    split
    · next hs =>
      rw [if_pos hs] at hl
      show unit _ _ + -t * unit _ _ + (t - 1) * unit _ _ = 0
      rw [hu _ (by omega), hv _ (by omega) (by omega), hv _ (by omega) (by omega)]; grind
    · next hs =>
      rw [if_neg hs] at hl
      show unit _ _ + -t * unit _ _ + (t - 1) * unit _ _ = 0
      rw [hu _ (by omega), hu _ (by omega), hv _ (by omega) (by omega)]; grind
  · have hsn : sameAs (w.getD k 0) p < n := by unfold sameAs; split <;> split <;> omega
    show unit _ _ - unit _ _ = 0
    rw [hu _ hsn, hv _ hp (by omega)]; grind
theorem brow_own {t : Rat} {n : Nat} {w : List Int} {k p : Nat} (ha : Let n (w.getD k 0)) (hp : p < n) : brow t n w k p (lv n (k + 1) p) = 1 ∨ brow t n w k p (lv n (k + 1) p) = -t := by
  have h0 : (w.getD k 0).natAbs ≠ 0 := fun e => ha.ne (Int.natAbs_eq_zero.1 e)
  have h1 := ha.lt
  have hu : ∀ q, q < n → unit (lv n k q) (lv n (k + 1) p) = 0 := fun q hq => if_neg fun e => by have := lv_inj hp hq e; omega
  have hv : ∀ q, q < n → q ≠ p → unit (lv n (k + 1) q) (lv n (k + 1) p) = 0 := fun q hq hne => if_neg fun e => by have := lv_inj hp hq e; omega
  have ho : unit (lv n (k + 1) p) (lv n (k + 1) p) = 1 := if_pos rfl
  unfold brow lrow
  split
  · next hl =>
    unfold lowAt at hl
    unfold rho
    split
    · next hs =>
      rw [if_pos hs] at hl
      left
      show unit _ _ + -t * unit _ _ + (t - 1) * unit _ _ = 1
      rw [← hl, ho, hu _ (by omega), hv _ (by omega) (by omega)]; grind
    · next hs =>
      rw [if_neg hs] at hl
      right
      show unit _ _ + -t * unit _ _ + (t - 1) * unit _ _ = -t
      rw [show (w.getD k 0).natAbs - 1 + 1 = p by omega, ho, hu _ (by omega), hu _ (by omega)]; grind
  · have hsn : sameAs (w.getD k 0) p < n := by unfold sameAs; split <;> split <;> omega
    left
    show unit _ _ - unit _ _ = 1
    rw [hu _ hsn, ho]; grind

theorem RR_mem {t : Rat} {n : Nat} {w : List Int} {m : Nat} {a : Row × Nat} : a ∈ RR t n w m ↔ ∃ k p, k < m ∧ p < n ∧ a = (brow t n w k p, lv n (k + 1) p) := by
  unfold RR
  simp only [List.mem_flatMap, List.mem_range, List.mem_map, List.mem_reverse]
  constructor
  · rintro ⟨k, hk, p, hp, rfl⟩; exact ⟨k, p, hk, hp, rfl⟩
  · rintro ⟨k, p, hk, hp, rfl⟩; exact ⟨k, hk, p, hp, rfl⟩
theorem RR_pair {t : Rat} {n : Nat} {w : List Int} : ∀ {m : Nat}, (∀ k, k < m → Let n (w.getD k 0)) → (RR t n w m).Pairwise fun a b => a.1 b.2 = 0
  | 0, _ => by simp [RR]
  | m + 1, h => by
    have h2 : RR t n w (m + 1) = RR t n w m ++ (List.range n).reverse.map fun p => (brow t n w m p, lv n (m + 1) p) := by
      unfold RR
      rw [List.range_succ, List.flatMap_append]
      simp
    rw [h2, List.pairwise_append]
    refine ⟨RR_pair fun k hk => h k (by omega), ?_, ?_⟩
    · rw [List.pairwise_map]
      have : ((List.range n).reverse).Pairwise fun p p' => p' < p := by rw [List.pairwise_reverse]; exact List.pairwise_lt_range
      refine this.imp_of_mem fun {p p'} hp hp' hlt => ?_
      exact brow_read (h m (by omega)) (List.mem_range.1 (List.mem_reverse.1 hp)) (List.mem_range.1 (List.mem_reverse.1 hp')) (Or.inr ⟨rfl, hlt⟩)
    · intro a ha b hb
      obtain ⟨k, p, hk, hp, rfl⟩ := RR_mem.1 ha
      obtain ⟨p', hp', rfl⟩ := List.mem_map.1 hb
      exact brow_read (h k (by omega)) hp (List.mem_range.1 (List.mem_reverse.1 hp')) (Or.inl hk)

/-- Solved for. -/
theorem solved {t : Rat} (ht : t ≠ 0) {n : Nat} {w : List Int} (hw : Lets n w) {b : Nat} (hb : b < n) (p0 : Nat) :
    Eu t (Dv ((RR t n w w.length).map (·.1) ++ unit b :: (but n p0).map (kap n w)) (VV n w)) (FA t n w b p0) := by
  let X : Nat → Row := fun z => levF t w (z / n) (z % n)
  have hX : ∀ k p, p < n → X (lv n k p) = levF t w k p := fun k p hp => by show levF t w (lv n k p / n) (lv n k p % n) = _; rw [(lv_div hp).1, (lv_div hp).2]
  have hVn : (VV n w).Nodup := List.nodup_range
  have h0 : ∀ p, p < n → X p = unit p := fun p hp => by have := hX 0 p hp; simp only [lv, Nat.zero_mul, Nat.zero_add] at this; rw [this]; rfl
  have hbm : ∀ p, p < n → p ∈ VV n w := fun p hp => by have := lv_mem (n := n) (w := w) (Nat.zero_le _) hp; simpa [lv] using this
  obtain ⟨e, he, k⟩ := Dv_solve (List.range n) X List.nodup_range (fun v hv z _ => by rw [h0 v (List.mem_range.1 hv)]) (RR t n w w.length) (unit b :: (but n p0).map (kap n w)) (VV n w) (RR_perm t n w w.length) (RR_pair hw)
    (by
      intro a ha
      obtain ⟨k, p, hk, hp, rfl⟩ := RR_mem.1 ha
      show brow t n w k p (lv n (k + 1) p) ≠ 0
      rcases brow_own (t := t) (hw k hk) hp with e | e <;> rw [e] <;> grind)
    (by
      intro a ha z _
      obtain ⟨k, p, hk, hp, rfl⟩ := RR_mem.1 ha
      exact put_lrow ht (hw k hk) hVn (x := levF t w k) (fun q hq => lv_mem (by omega) hq) (fun q hq => lv_mem (by omega) hq) (fun q hq => hX k q hq) (fun q hq => hX (k + 1) q hq) hp z)
  rw [k]
  have h1 : Dv ((unit b :: (but n p0).map (kap n w)).map (put (VV n w) X)) (List.range n) = FA t n w b p0 := by
    have := Dv_map (f := put (VV n w) X) (g := fun r => put (VV n w) X r) (vs := List.range n) (unit b :: (but n p0).map (kap n w)) fun _ _ _ _ => rfl
    unfold FA
    rw [List.map_cons, List.map_map]
    rw [show put (VV n w) X (unit b) = unit b from funext fun z => by rw [put_unit hVn X (hbm b hb), h0 b hb]]
    congr 2
    refine List.map_congr_left fun p hp => ?_
    have hpn : p < n := List.mem_range.1 (List.mem_of_mem_erase hp)
    funext z
    show put (VV n w) X (eqr (lv n w.length p, lv n 0 p)) z = levF t w w.length p z - unit p z
    rw [put_eqr hVn X (lv_mem (Nat.le_refl _) hpn) (lv_mem (Nat.zero_le _) hpn)]
    show X (lv n w.length p) z - X (lv n 0 p) z = _
    rw [hX _ p hpn, hX _ p hpn]
    rfl
  rw [h1]
  refine Eu.un ((Un.sg he).mul ht (Un.prd ht fun x hx => ?_))
  obtain ⟨a, ha, rfl⟩ := List.mem_map.1 hx
  obtain ⟨k, p, hk, hp, rfl⟩ := RR_mem.1 ha
  show Un t (brow t n w k p (lv n (k + 1) p))
  rcases brow_own (t := t) (hw k hk) hp with e | e <;> rw [e]
  · exact .one t
  · exact (Un.self t).neg ht
end Go.Proofs.YtdelekkbkpldjaaDoor.Kn

/- A closed word's rows, plain: merged, and told by the diagram's rows. -/
namespace Go.Proofs.YtdelekkbkpldjaaDoor.Kn
set_option linter.unusedVariables false

theorem zz_sub (t : Rat) (n : Nat) (u v : Nat → Nat) (z : Nat) : zz t n v z - zz t n u z = ((List.range n).map fun p => t ^ p * eqr (v p, u p) z).sum := by
  unfold zz
  have : (fun p => t ^ p * eqr (v p, u p) z) = fun p => t ^ p * unit (v p) z + (-1) * (t ^ p * unit (u p) z) := funext fun p => by unfold eqr; grind
  rw [this, sum_add, sum_smul]; grind
theorem RR_succ (t : Rat) (n : Nat) (w : List Int) (m : Nat) : (RR t n w (m + 1)).map (·.1) = (RR t n w m).map (·.1) ++ (List.range n).reverse.map (brow t n w m) := by
  unfold RR
  rw [List.range_succ, List.flatMap_append, List.map_append]
  simp [Function.comp_def]
theorem brow_in {t : Rat} {n : Nat} {w : List Int} {m k p : Nat} (hk : k < m) (hp : p < n) : brow t n w k p ∈ (RR t n w m).map (·.1) := List.mem_map.2 ⟨_, RR_mem.2 ⟨k, p, hk, hp, rfl⟩, rfl⟩
theorem zz_sp {t : Rat} {n : Nat} {w : List Int} (hw : Lets n w) (vs : List Nat) : ∀ m, m ≤ w.length → Sp vs ((RR t n w m).map (·.1)) fun z => zz t n (lv n m) z - zz t n (lv n 0) z
  | 0, _ => .zero fun v _ => by grind
  | m + 1, h => by
    have h1 := (zz_sp hw vs m (by omega)).mono (rs' := (RR t n w (m + 1)).map (·.1)) fun r hr => by rw [RR_succ]; exact List.mem_append_left _ hr
    have h2 := Sp.sum (vs := vs) (rs := (RR t n w (m + 1)).map (·.1)) (fun p => wt t (w.getD m 0) p) (fun p => brow t n w m p) (List.range n) fun p hp => brow_in (by omega) (List.mem_range.1 hp)
    refine (h1.plus h2).congr fun z _ => ?_
    have := zz_step (t := t) (hw m (by omega)) (lv n m) (lv n (m + 1)) z
    simp only [brow] at *
    grind

def rhoK (t : Rat) (n : Nat) (w : List Int) (k : Nat) : Row := rho t (w.getD k 0) (lv n k) (lv n (k + 1))
def EB (n : Nat) (w : List Int) (m : Nat) : List (Nat × Nat) := (List.range m).flatMap fun k => (but n (lowAt (w.getD k 0))).map fun p => (lv n (k + 1) p, lv n k (sameAs (w.getD k 0) p))
/-- Which unknowns are the same. -/
def EE (n : Nat) (w : List Int) : List (Nat × Nat) := EB n w w.length ++ (List.range n).map fun p => (lv n w.length p, lv n 0 p)

theorem EB_succ (n : Nat) (w : List Int) (m : Nat) : EB n w (m + 1) = EB n w m ++ (but n (lowAt (w.getD m 0))).map fun p => (lv n (m + 1) p, lv n m (sameAs (w.getD m 0) p)) := by
  unfold EB
  rw [List.range_succ, List.flatMap_append]
  simp
theorem Let.low {n : Nat} {a : Int} (h : Let n a) : lowAt a < n := by
  have h0 : a.natAbs ≠ 0 := fun e => h.ne (Int.natAbs_eq_zero.1 e)
  have := h.lt
  unfold lowAt; split <;> omega
theorem Let.same {n : Nat} {a : Int} (h : Let n a) {p : Nat} (hp : p < n) : sameAs a p < n := by
  have h0 : a.natAbs ≠ 0 := fun e => h.ne (Int.natAbs_eq_zero.1 e)
  have := h.lt
  unfold sameAs; split <;> split <;> omega
theorem but_eqr (t : Rat) (n : Nat) (w : List Int) (k : Nat) : (but n (lowAt (w.getD k 0))).map (brow t n w k) = ((but n (lowAt (w.getD k 0))).map fun p => (lv n (k + 1) p, lv n k (sameAs (w.getD k 0) p))).map eqr := by
  rw [List.map_map]
  refine List.map_congr_left fun p hp => ?_
  have : p ≠ lowAt (w.getD k 0) := (List.nodup_range.mem_erase_iff.1 hp).1
  show lrow t _ _ _ p = _
  rw [lrow, if_neg this]
  rfl
theorem brow_low (t : Rat) (n : Nat) (w : List Int) (k : Nat) : brow t n w k (lowAt (w.getD k 0)) = rhoK t n w k := by
  show lrow t _ _ _ _ = _
  rw [lrow, if_pos rfl]
  rfl
theorem last_perm {t : Rat} {n : Nat} {w : List Int} {k : Nat} (h : Let n (w.getD k 0)) : ((List.range n).reverse.map (brow t n w k)).Perm (rhoK t n w k :: (but n (lowAt (w.getD k 0))).map (brow t n w k)) := by
  have h1 : ((List.range n).reverse.map (brow t n w k)).Perm ((List.range n).map (brow t n w k)) := (List.reverse_perm _).map _
  have h2 := (List.perm_cons_erase (List.mem_range.2 h.low)).map (brow t n w k)
  rw [List.map_cons, brow_low] at h2
  exact h1.trans h2
theorem RR_rows {t : Rat} {n : Nat} {w : List Int} (hw : Lets n w) : ∀ m, m ≤ w.length → ((RR t n w m).map (·.1)).Perm ((List.range m).map (rhoK t n w) ++ (EB n w m).map eqr)
  | 0, _ => by simp [RR, EB]
  | m + 1, h => by
    rw [RR_succ, EB_succ, List.range_succ, List.map_append, List.map_append, List.map_cons, List.map_nil, ← but_eqr t]
    refine ((RR_rows hw m (by omega)).append (last_perm (hw m (by omega)))).trans ?_
    simp only [List.append_assoc, List.cons_append, List.nil_append]
    refine List.Perm.append_left _ ?_
    exact List.perm_middle

theorem kaps_perm {n : Nat} (w : List Int) {p : Nat} (hp : p < n) : (((List.range n).map fun p => (lv n w.length p, lv n 0 p)).map eqr).Perm (kap n w p :: (but n p).map (kap n w)) := by
  rw [List.map_map]
  have := (List.perm_cons_erase (List.mem_range.2 hp)).map (kap n w)
  rwa [List.map_cons] at this

/-- What is left out is exchanged. -/
theorem FA_two {t : Rat} (ht : t ≠ 0) {n : Nat} {w : List Int} (hw : Lets n w) {b p0 : Nat} (hb : b < n) (hp : p0 < n) {L : Nat} (hL : w.length = L + 1) :
    Eu t (FA t n w b p0) (Dv ((EE n w).map eqr ++ unit b :: (List.range L).map (rhoK t n w)) (VV n w)) := by
  refine (solved ht hw hb p0).symm ht |>.trans ht ?_
  have hwl : Let n (w.getD L 0) := hw L (by omega)
  let R := (RR t n w L).map (·.1)
  let T := (but n (lowAt (w.getD L 0))).map (brow t n w L)
  let K := (but n p0).map (kap n w)
  have e1 : ((RR t n w w.length).map (·.1) ++ unit b :: K).Perm (unit b :: rhoK t n w L :: (R ++ T ++ K)) := by
    rw [hL, RR_succ]
    refine List.perm_middle.trans (List.Perm.cons _ ?_)
    refine (((List.Perm.append_left _ (last_perm hwl))).append_right K).trans ?_
    have := List.perm_middle (l₁ := R) (l₂ := T ++ K) (a := rhoK t n w L)
    simp [R, T, List.append_assoc]
  have e2 : ((EE n w).map eqr ++ unit b :: (List.range L).map (rhoK t n w)).Perm (unit b :: kap n w p0 :: (R ++ T ++ K)) := by
    refine List.perm_middle.trans (List.Perm.cons _ ?_)
    unfold EE
    rw [hL, EB_succ, List.map_append, List.map_append, ← but_eqr t, ← hL]
    have h1 := kaps_perm w hp
    have h2 : (R ++ T ++ K).Perm (((EB n w L).map eqr ++ T ++ K) ++ (List.range L).map (rhoK t n w)) := by
      have := ((RR_rows (t := t) hw L (by omega)).append_right (T ++ K))
      have h3 : ((List.range L).map (rhoK t n w) ++ (EB n w L).map eqr ++ (T ++ K)).Perm (((EB n w L).map eqr ++ T ++ K) ++ (List.range L).map (rhoK t n w)) := by
        rw [List.append_assoc]
        refine List.perm_append_comm.trans ?_
        simp only [List.append_assoc]
        exact List.Perm.refl _
      have h4 := this.trans h3
      simpa [R, List.append_assoc] using h4
    refine List.Perm.trans ?_ (List.Perm.cons _ h2.symm)
    refine ((List.Perm.append_left _ h1).append_right _).trans ?_
    have := List.perm_middle (l₁ := (EB n w L).map eqr ++ T) (l₂ := K ++ (List.range L).map (rhoK t n w)) (a := kap n w p0)
    simpa [T, K, List.append_assoc] using this
  refine (Eu.rows e1 _).trans ht (Eu.trans ht ?_ ((Eu.rows e2 _).symm ht))
  refine Eu.exch ht (wt_un ht (w.getD L 0) (lowAt (w.getD L 0))) (Un.pow ht p0) ?_
  have s1 := (zz_sp (t := t) hw (VV n w) L (by omega)).mono (rs' := R ++ T ++ K) fun r hr => List.mem_append_left _ (List.mem_append_left _ hr)
  have s2 := Sp.sum (vs := VV n w) (rs := R ++ T ++ K) (fun p => wt t (w.getD L 0) p) (fun p => brow t n w L p) (but n (lowAt (w.getD L 0))) fun p hq => List.mem_append_left _ (List.mem_append_right _ (List.mem_map.2 ⟨p, hq, rfl⟩))
  have s3 := Sp.sum (vs := VV n w) (rs := R ++ T ++ K) (fun p => t ^ p) (fun p => kap n w p) (but n p0) fun p hq => List.mem_append_right _ (List.mem_map.2 ⟨p, hq, rfl⟩)
  refine (((s1.plus s2).smul (-1)).plus s3).congr fun z _ => ?_
  have z1 := zz_step (t := t) hwl (lv n L) (lv n (L + 1)) z
  have z2 := zz_sub t n (lv n 0) (lv n w.length) z
  have p1 := sum_perm (List.perm_cons_erase (List.mem_range.2 hwl.low)) fun p => wt t (w.getD L 0) p * lrow t (w.getD L 0) (lv n L) (lv n (L + 1)) p z
  have p2 := sum_perm (List.perm_cons_erase (List.mem_range.2 hp)) fun p => t ^ p * eqr (lv n w.length p, lv n 0 p) z
  rw [List.map_cons, List.sum_cons] at p1 p2
  rw [p1] at z1
  rw [p2, hL] at z2
  have b1 : lrow t (w.getD L 0) (lv n L) (lv n (L + 1)) (lowAt (w.getD L 0)) = rhoK t n w L := brow_low t n w L
  rw [b1] at z1
  simp only [brow, kap, but, hL] at *
  grind

theorem EB_len {n : Nat} {w : List Int} (hw : Lets n w) : ∀ m, m ≤ w.length → (EB n w m).length = m * (n - 1)
  | 0, _ => by simp [EB]
  | m + 1, h => by
    rw [EB_succ, List.length_append, EB_len hw m (by omega), List.length_map, but, List.length_erase_of_mem (List.mem_range.2 (hw m (by omega)).low), List.length_range, Nat.succ_mul]
theorem EE_len {n : Nat} {w : List Int} (hw : Lets n w) (hn : 0 < n) (m : Nat) : (VV n w).length = m + (EE n w).length ↔ m = w.length := by
  unfold EE VV
  rw [List.length_append, EB_len hw _ (Nat.le_refl _), List.length_map, List.length_range, List.length_range]
  have : w.length * n = w.length * (n - 1) + w.length := by
    obtain ⟨n', rfl⟩ : ∃ n', n = n' + 1 := ⟨n - 1, by omega⟩
    rw [Nat.add_sub_cancel, Nat.mul_succ]
  rw [Nat.succ_mul]
  omega
end Go.Proofs.YtdelekkbkpldjaaDoor.Kn

/- A closed word's rows merged, plain: the determinant of the diagram's rows is that of one less the word's table. -/
namespace Go.Proofs.YtdelekkbkpldjaaDoor.Kn
set_option linter.unusedVariables false

theorem unit_sum {vs : List Nat} (hn : vs.Nodup) {a : Nat} (ha : a ∈ vs) : (vs.map (unit a)).sum = 1 := by
  have key : ∀ l : List Nat, l.Nodup → (l.map (unit a)).sum = if a ∈ l then 1 else 0 := by
    intro l hl
    induction l with
    | nil => simp
    | cons c l ih =>
      rw [List.map_cons, List.sum_cons, ih (List.nodup_cons.1 hl).2, unit]
      by_cases hc : c = a
      · subst hc; rw [if_pos rfl, if_neg (List.nodup_cons.1 hl).1, if_pos List.mem_cons_self]; grind
      · rw [if_neg hc]
        by_cases hbl : a ∈ l
        · rw [if_pos hbl, if_pos (List.mem_cons_of_mem _ hbl)]; grind
        · rw [if_neg hbl, if_neg fun hm => (List.mem_cons.1 hm).elim (fun e => hc e.symm) hbl]; grind
  rw [key vs hn, if_pos ha]
theorem unit_sum_filter {vs : List Nat} (hn : vs.Nodup) {a : Nat} (ha : a ∈ vs) (q : Nat → Nat) (c : Nat) : psh vs q (unit a) c = if q a = c then 1 else 0 := by
  unfold psh
  by_cases h : q a = c
  · rw [if_pos h]
    exact unit_sum (hn.sublist List.filter_sublist) (List.mem_filter.2 ⟨ha, by simp [h]⟩)
  · rw [if_neg h]
    refine sum_zero _ _ fun v hv => ?_
    have := (List.mem_filter.1 hv).2
    refine if_neg fun e => h ?_
    rw [← e]; simpa using this
theorem psh_lin (vs : List Nat) (q : Nat → Nat) (r s : Row) (a b : Rat) (c : Nat) : psh vs q (fun v => a * r v + b * s v) c = a * psh vs q r c + b * psh vs q s c := by
  unfold psh
  rw [sum_add, sum_smul, sum_smul]
theorem psh_congr {vs : List Nat} {q : Nat → Nat} {r s : Row} (h : ∀ v ∈ vs, r v = s v) (c : Nat) : psh vs q r c = psh vs q s c := by
  unfold psh
  exact sum_congr fun v hv => h v (List.mem_filter.1 hv).1
theorem psh_eqr {vs : List Nat} (hn : vs.Nodup) {q : Nat → Nat} {e : Nat × Nat} (h1 : e.1 ∈ vs) (h2 : e.2 ∈ vs) (hq : q e.1 = q e.2) (c : Nat) : psh vs q (eqr e) c = 0 := by
  have := psh_lin vs q (unit e.1) (unit e.2) 1 (-1) c
  rw [unit_sum_filter hn h1, unit_sum_filter hn h2, hq] at this
  rw [show eqr e = fun v => 1 * unit e.1 v + -1 * unit e.2 v from funext fun v => by unfold eqr; grind, this]
  grind
theorem psh_three {vs : List Nat} (hn : vs.Nodup) (q : Nat → Nat) {a b d : Nat} (ha : a ∈ vs) (hb : b ∈ vs) (hd : d ∈ vs) (m l : Rat) (c : Nat) :
    psh vs q (fun v => unit a v + m * unit b v + l * unit d v) c = (if q a = c then 1 else 0) + m * (if q b = c then 1 else 0) + l * (if q d = c then 1 else 0) := by
  have h1 := psh_lin vs q (unit a) (unit b) 1 m c
  have h2 := psh_lin vs q (fun v => 1 * unit a v + m * unit b v) (unit d) 1 l c
  rw [unit_sum_filter hn ha, unit_sum_filter hn hb] at h1
  rw [unit_sum_filter hn hd, h1] at h2
  rw [show (fun v => unit a v + m * unit b v + l * unit d v) = fun v => 1 * (1 * unit a v + m * unit b v) + l * unit d v from funext fun v => by grind, h2]
  grind
theorem psh_sum (vs : List Nat) (q : Nat → Nat) (f : Nat → Rat) (r : Nat → Row) (c : Nat) : ∀ l : List Nat, psh vs q (fun v => (l.map fun k => f k * r k v).sum) c = (l.map fun k => f k * psh vs q (r k) c).sum
  | [] => by
    unfold psh
    exact sum_zero _ _ fun v _ => rfl
  | k :: l => by
    have h1 := psh_lin vs q (r k) (fun v => (l.map fun k => f k * r k v).sum) (f k) 1 c
    rw [psh_sum vs q f r c l] at h1
    rw [List.map_cons, List.sum_cons, show (fun v => ((k :: l).map fun k => f k * r k v).sum) = fun v => f k * r k v + 1 * (l.map fun k => f k * r k v).sum from funext fun v => by rw [List.map_cons, List.sum_cons]; grind, h1]
    grind
theorem psh_sp {vs : List Nat} {q : Nat → Nat} {rs : List Row} (h : ∀ r ∈ rs, ∀ c, psh vs q r c = 0) {u : Row} (k : Sp vs rs u) (c : Nat) : psh vs q u c = 0 := by
  induction k with
  | zero k => rw [psh_congr (s := fun _ => 0) k]; unfold psh; exact sum_zero _ _ fun _ _ => rfl
  | @add u r w m _ hr hw ih =>
    have h1 := psh_lin vs q u r 1 m c
    rw [psh_congr (s := fun v => 1 * u v + m * r v) (fun v hv => by rw [hw v hv]; grind), h1, ih, h r hr]
    grind

/-- Which unknowns the row of the strand below reads: behind it, ahead of it, and that above. -/
def toV (n : Nat) (w : List Int) (k : Nat) : Nat := if 0 < w.getD k 0 then lv n (k + 1) ((w.getD k 0).natAbs - 1) else lv n k ((w.getD k 0).natAbs - 1)
def inV (n : Nat) (w : List Int) (k : Nat) : Nat := if 0 < w.getD k 0 then lv n k ((w.getD k 0).natAbs - 1 + 1) else lv n (k + 1) ((w.getD k 0).natAbs - 1 + 1)
def ovV (n : Nat) (w : List Int) (k : Nat) : Nat := if 0 < w.getD k 0 then lv n (k + 1) ((w.getD k 0).natAbs - 1 + 1) else lv n k ((w.getD k 0).natAbs - 1 + 1)
theorem rhoK_is (t : Rat) (n : Nat) (w : List Int) (k : Nat) : rhoK t n w k = fun z => unit (toV n w k) z + -t * unit (inV n w k) z + (t - 1) * unit (ovV n w k) z := by
  unfold rhoK rho toV inV ovV
  split <;> rfl
theorem rho_mem {n : Nat} {w : List Int} {k : Nat} (hk : k < w.length) (h : Let n (w.getD k 0)) : toV n w k ∈ VV n w ∧ inV n w k ∈ VV n w ∧ ovV n w k ∈ VV n w := by
  have h0 : (w.getD k 0).natAbs ≠ 0 := fun e => h.ne (Int.natAbs_eq_zero.1 e)
  have := h.lt
  unfold toV inV ovV
  split <;> exact ⟨lv_mem (by omega) (by omega), lv_mem (by omega) (by omega), lv_mem (by omega) (by omega)⟩
/-- The diagram's row. -/
def prow (t : Rat) (n : Nat) (w : List Int) (q : Nat → Nat) (k : Nat) : Row := fun c =>
  (if q (toV n w k) = c then 1 else 0) + -t * (if q (inV n w k) = c then 1 else 0) + (t - 1) * (if q (ovV n w k) = c then 1 else 0)
theorem psh_rho {t : Rat} {n : Nat} {w : List Int} {k : Nat} (hk : k < w.length) (h : Let n (w.getD k 0)) (q : Nat → Nat) : psh (VV n w) q (rhoK t n w k) = prow t n w q k := by
  obtain ⟨h1, h2, h3⟩ := rho_mem hk h
  funext c
  rw [rhoK_is, psh_three (vs := VV n w) List.nodup_range q h1 h2 h3]
  rfl
theorem rho_sum {t : Rat} {n : Nat} {w : List Int} {k : Nat} (hk : k < w.length) (h : Let n (w.getD k 0)) : ((VV n w).map (rhoK t n w k)).sum = 0 := by
  obtain ⟨h1, h2, h3⟩ := rho_mem hk h
  have hn : (VV n w).Nodup := List.nodup_range
  rw [rhoK_is, sum_add, sum_add, sum_smul, sum_smul, unit_sum hn h1, unit_sum hn h2, unit_sum hn h3]
  grind
theorem eqr_sum {vs : List Nat} (hn : vs.Nodup) {e : Nat × Nat} (h1 : e.1 ∈ vs) (h2 : e.2 ∈ vs) : (vs.map (eqr e)).sum = 0 := by
  rw [show eqr e = fun v => unit e.1 v + -1 * unit e.2 v from funext fun v => by unfold eqr; grind, sum_add, sum_smul, unit_sum hn h1, unit_sum hn h2]
  grind

/-- The rows below add up to nothing but what is the same. -/
theorem rho_sp {t : Rat} {n : Nat} {w : List Int} (hw : Lets n w) : Sp (VV n w) ((EE n w).map eqr) fun z => ((List.range w.length).map fun k => wt t (w.getD k 0) (lowAt (w.getD k 0)) * rhoK t n w k z).sum := by
  have key : ∀ m, m ≤ w.length → Sp (VV n w) ((EB n w m).map eqr) fun z => zz t n (lv n m) z - zz t n (lv n 0) z - ((List.range m).map fun k => wt t (w.getD k 0) (lowAt (w.getD k 0)) * rhoK t n w k z).sum := by
    intro m
    induction m with
    | zero => intro _; exact .zero fun v _ => by simp; grind
    | succ m ih =>
      intro h
      have hwl := hw m (by omega)
      have h1 := (ih (by omega)).mono (rs' := (EB n w (m + 1)).map eqr) fun r hr => by rw [EB_succ, List.map_append]; exact List.mem_append_left _ hr
      have h2 := Sp.sum (vs := VV n w) (rs := (EB n w (m + 1)).map eqr) (fun p => wt t (w.getD m 0) p) (fun p => brow t n w m p) (but n (lowAt (w.getD m 0))) fun p hp => by
        rw [EB_succ, List.map_append, ← but_eqr t]
        exact List.mem_append_right _ (List.mem_map.2 ⟨p, hp, rfl⟩)
      refine (h1.plus h2).congr fun z _ => ?_
      have z1 := zz_step (t := t) hwl (lv n m) (lv n (m + 1)) z
      have p1 := sum_perm (List.perm_cons_erase (List.mem_range.2 hwl.low)) fun p => wt t (w.getD m 0) p * lrow t (w.getD m 0) (lv n m) (lv n (m + 1)) p z
      rw [List.map_cons, List.sum_cons] at p1
      rw [p1] at z1
      have b1 : lrow t (w.getD m 0) (lv n m) (lv n (m + 1)) (lowAt (w.getD m 0)) = rhoK t n w m := brow_low t n w m
      rw [b1] at z1
      rw [List.range_succ, List.map_append, List.sum_append]
      simp only [brow, but, List.map_cons, List.map_nil, List.sum_cons, List.sum_nil] at *
      grind
  have h1 := (key w.length (Nat.le_refl _)).mono (rs' := (EE n w).map eqr) fun r hr => by unfold EE; rw [List.map_append]; exact List.mem_append_left _ hr
  have h2 := Sp.sum (vs := VV n w) (rs := (EE n w).map eqr) (fun p => t ^ p) (fun p => eqr (lv n w.length p, lv n 0 p)) (List.range n) fun p hp => by
    unfold EE; rw [List.map_append, List.map_map]; exact List.mem_append_right _ (List.mem_map.2 ⟨p, hp, rfl⟩)
  refine ((h1.smul (-1)).plus h2).congr fun z _ => ?_
  have := zz_sub t n (lv n 0) (lv n w.length) z
  grind

theorem Dv_last {t : Rat} {L : Nat} (rs : List Row) : Eu t (Dv (unit L :: rs) (List.range (L + 1))) (Dv rs (List.range L)) := by
  have hp : (List.range (L + 1)).Perm (L :: List.range L) := by rw [List.range_succ]; exact List.perm_append_comm
  obtain ⟨e, he, k⟩ := Dv_cols hp
  have h1 : unit L L = 1 := if_pos rfl
  have h2 : Dv (unit L :: rs) (L :: List.range L) = Dv rs (List.range L) := by
    rw [Dv_out (by rw [h1]; grind), h1]
    have := Dv_map (f := fun s v => s v - s L / 1 * unit L v) (g := fun s => s) (vs := List.range L) rs fun r _ v hv => by
      have hv' := List.mem_range.1 hv
      show r v - r L / 1 * unit L v = r v
      rw [show unit L v = 0 from if_neg (by omega)]; grind
    rw [List.map_id'] at this
    rw [this]; grind
  exact ⟨e, .sg he, by rw [k, h2]⟩

/-- THE DETERMINANT OF A CLOSED WORD'S DIAGRAM, by its rows. -/
theorem clos_det {t : Rat} (ht : t ≠ 0) {n : Nat} {w : List Int} (hw : Lets n w) {b p0 : Nat} (hb : b < n) (hp : p0 < n) {L : Nat} (hL : w.length = L + 1) {q : Nat → Nat} {m : Nat} (hq : Quo (VV n w) (EE n w) q (List.range m)) :
    (m = L + 1 → Eu t (FA t n w b p0) (Dv ((List.range L).map (prow t n w q)) (List.range L))) ∧ (m ≠ L + 1 → FA t n w b p0 = 0) ∧
    Dv ((List.range (L + 1)).map (prow t n w q)) (List.range (L + 1)) = 0 := by
  have hn : (VV n w).Nodup := List.nodup_range
  have h2 := FA_two ht hw hb hp hL
  have hbm : b ∈ VV n w := by have := lv_mem (n := n) (w := w) (Nat.zero_le _) hb; simpa [lv] using this
  obtain ⟨m1, m2⟩ := Dv_merge hq
  have hlen := EE_len hw (show 0 < n by omega) m
  refine ⟨fun hm => ?_, fun hm => ?_, ?_⟩
  · subst hm
    obtain ⟨v, hv, hqv⟩ := hq.onto L (List.mem_range.2 (by omega))
    obtain ⟨e, he, k⟩ := m1 (by rw [List.length_range]; exact hlen.2 hL.symm)
    have pm : ∀ r, ((EE n w).map eqr ++ r :: (List.range L).map (rhoK t n w)).Perm (r :: ((EE n w).map eqr ++ (List.range L).map (rhoK t n w))) := fun r => List.perm_middle
    have hs : ∀ r ∈ (EE n w).map eqr ++ (List.range L).map (rhoK t n w), ((VV n w).map r).sum = 0 := by
      intro r hr
      rcases List.mem_append.1 hr with hr | hr
      · obtain ⟨e, he, rfl⟩ := List.mem_map.1 hr
        exact eqr_sum hn (hq.ends e he).1 (hq.ends e he).2
      · obtain ⟨k, hk, rfl⟩ := List.mem_map.1 hr
        have := List.mem_range.1 hk
        exact rho_sum (by omega) (hw k (by omega))
    have hnorm := Dv_norm hs (u := unit b) (w := unit v) (by rw [unit_sum hn hbm, unit_sum hn hv])
    have e1 : Eu t (FA t n w b p0) (Dv ((EE n w).map eqr ++ unit v :: (List.range L).map (rhoK t n w)) (VV n w)) :=
      h2.trans ht ((Eu.rows (pm _) _).trans ht (by rw [hnorm]; exact (Eu.rows (pm _) _).symm ht))
    refine e1.trans ht ?_
    rw [k]
    refine (Eu.un (Un.sg he)).trans ht ?_
    rw [List.map_cons, List.map_map, show psh (VV n w) q (unit v) = unit L from funext fun c => by
      rw [unit_sum_filter hn hv, hqv]
      unfold unit
      by_cases e : L = c
      · rw [if_pos e, if_pos e.symm]
      · rw [if_neg e, if_neg fun k => e k.symm], show (List.range L).map (psh (VV n w) q ∘ rhoK t n w) = (List.range L).map (prow t n w q) from List.map_congr_left fun k hk => by
        have := List.mem_range.1 hk
        exact psh_rho (by omega) (hw k (by omega)) q]
    exact Dv_last _
  · have h3 := m2 (by rw [List.length_range]; intro e; exact hm ((hlen.1 e).trans hL)) (unit b :: (List.range L).map (rhoK t n w))
    rw [h3] at h2
    exact h2.zero
  · have h3 := psh_sp (vs := VV n w) (q := q) (rs := (EE n w).map eqr) (fun r hr c => by
      obtain ⟨e, he, rfl⟩ := List.mem_map.1 hr
      exact psh_eqr hn (hq.ends e he).1 (hq.ends e he).2 (hq.same e he) c) (rho_sp (t := t) hw)
    have h4 : ∀ c, ((List.range w.length).map fun k => wt t (w.getD k 0) (lowAt (w.getD k 0)) * prow t n w q k c).sum = 0 := by
      intro c
      have := psh_sum (VV n w) q (fun k => wt t (w.getD k 0) (lowAt (w.getD k 0))) (rhoK t n w) c (List.range w.length)
      rw [h3 c] at this
      rw [this]
      exact sum_congr fun k hk => by
        have := List.mem_range.1 hk
        rw [psh_rho this (hw k this)]
    obtain ⟨c0, hc0, e0⟩ := (wt_un ht (w.getD 0 0) (lowAt (w.getD 0 0))).inv ht
    rw [List.range_succ_eq_map, List.map_cons, List.map_map]
    refine Dv_sp ?_
    have s := Sp.sum (vs := 0 :: (List.range L).map Nat.succ) (rs := (List.range L).map (prow t n w q ∘ Nat.succ)) (fun k => wt t (w.getD (k + 1) 0) (lowAt (w.getD (k + 1) 0))) (fun k => prow t n w q (k + 1)) (List.range L) fun k hk => List.mem_map.2 ⟨k, hk, rfl⟩
    refine (s.smul (-c0)).congr fun z _ => ?_
    have := h4 z
    rw [hL, List.range_succ_eq_map, List.map_cons, List.sum_cons, List.map_map] at this
    have e5 : (((List.range L).map ((fun k => wt t (w.getD k 0) (lowAt (w.getD k 0)) * prow t n w q k z) ∘ Nat.succ))).sum = ((List.range L).map fun k => wt t (w.getD (k + 1) 0) (lowAt (w.getD (k + 1) 0)) * prow t n w q (k + 1) z).sum := rfl
    rw [e5] at this
    grind
end Go.Proofs.YtdelekkbkpldjaaDoor.Kn

/- One less a table, without a row: whatever is left out; what goes around; one strand more. Plain. -/
namespace Go.Proofs.YtdelekkbkpldjaaDoor.Kn
set_option linter.unusedVariables false

/-- Forms F of n places: their sums are 1, and weighted they are what they were. -/
structure Fm (t : Rat) (n : Nat) (F : Nat → Row) : Prop where
  one : ∀ p, p < n → ((List.range n).map (F p)).sum = 1
  wt : ∀ z, z < n → ((List.range n).map fun p => t ^ p * F p z).sum = t ^ z
def FG (n : Nat) (F : Nat → Row) (b p0 : Nat) : Rat := Dv (unit b :: (but n p0).map fun p z => F p z - unit p z) (List.range n)
theorem FA_FG (t : Rat) (n : Nat) (w : List Int) (b p0 : Nat) : FA t n w b p0 = FG n (levF t w w.length) b p0 := rfl

theorem sum_pt {n a : Nat} (ha : a < n) (f : Nat → Rat) (h : ∀ p, p < n → p ≠ a → f p = 0) : ((List.range n).map f).sum = f a := by
  have h1 := sum_perm (List.perm_cons_erase (List.mem_range.2 ha)) f
  rw [h1, List.map_cons, List.sum_cons, sum_zero _ _ fun v hv => h v (List.mem_range.1 (List.mem_of_mem_erase hv)) (List.nodup_range.mem_erase_iff.1 hv).1]
  grind
theorem Fm.unit (t : Rat) (n : Nat) : Fm t n unit := by
  refine ⟨fun p hp => ?_, fun z hz => ?_⟩
  · exact unit_sum List.nodup_range (List.mem_range.2 hp)
  · rw [sum_pt hz _ fun p _ hne => by rw [show Kn.unit p z = 0 from if_neg fun e => hne e.symm]; grind, show Kn.unit z z = 1 from if_pos rfl]; grind
theorem Fm.step {t : Rat} (ht : t ≠ 0) {n : Nat} {x : Nat → Row} (h : Fm t n x) {a : Int} (ha : Let n a) : Fm t n (stepF t a x) := by
  have h0 : a.natAbs ≠ 0 := fun e => ha.ne (Int.natAbs_eq_zero.1 e)
  have h1 := ha.lt
  have hi : a.natAbs - 1 + 1 = a.natAbs := by omega
  have hne : ¬ a.natAbs - 1 + 1 = a.natAbs - 1 := by omega
  have hpw : t ^ (a.natAbs - 1 + 1) = t ^ (a.natAbs - 1) * t := Rat.pow_succ _ _
  refine ⟨fun p hp => ?_, fun z hz => ?_⟩
  · have o1 := h.one (a.natAbs - 1) (by omega)
    have o2 := h.one (a.natAbs - 1 + 1) (by omega)
    have o3 := h.one p hp
    unfold stepF
    by_cases hs : 0 < a
    · simp only [if_pos hs]
      split
      · have : ((List.range n).map fun b => t * x (a.natAbs - 1 + 1) b + (1 - t) * x (a.natAbs - 1) b).sum = t * 1 + (1 - t) * 1 := by rw [sum_add, sum_smul, sum_smul, o1, o2]
        rw [this]; grind
      · split
        · exact o1
        · exact o3
    · simp only [if_neg hs]
      split
      · exact o2
      · split
        · have : ((List.range n).map fun b => t⁻¹ * (x (a.natAbs - 1) b + (t - 1) * x (a.natAbs - 1 + 1) b)).sum = t⁻¹ * (1 + (t - 1) * 1) := by rw [sum_smul, sum_add, sum_smul, o1, o2]
          rw [this]; grind
        · exact o3
  · rw [← h.wt z hz]
    refine sum_two (i := a.natAbs - 1) (by omega) (fun p hp p1 p2 => ?_) ?_
    · unfold stepF
      by_cases hs : 0 < a
      · simp only [if_pos hs, if_neg p1, if_neg p2]
      · simp only [if_neg hs, if_neg p1, if_neg p2]
    · unfold stepF
      by_cases hs : 0 < a
      · simp only [if_pos hs, if_true, if_neg hne]
        grind
      · simp only [if_neg hs, if_true, if_neg hne]
        grind
theorem Fm.lev {t : Rat} (ht : t ≠ 0) {n : Nat} {w : List Int} (hw : Lets n w) : ∀ k, k ≤ w.length → Fm t n (levF t w k)
  | 0, _ => .unit t n
  | k + 1, h => (Fm.lev ht hw k (by omega)).step ht (hw k (by omega))

theorem FG_b {t : Rat} {n : Nat} {F : Nat → Row} (h : Fm t n F) {b b' p0 : Nat} (hb : b < n) (hb' : b' < n) : FG n F b p0 = FG n F b' p0 := by
  refine Dv_norm (fun r hr => ?_) (by rw [unit_sum List.nodup_range (List.mem_range.2 hb), unit_sum List.nodup_range (List.mem_range.2 hb')])
  obtain ⟨p, hp, rfl⟩ := List.mem_map.1 hr
  have hpn := List.mem_range.1 (List.mem_of_mem_erase hp)
  rw [show (fun z => F p z - unit p z) = fun z => F p z + -1 * unit p z from funext fun z => by grind, sum_add, sum_smul, h.one p hpn, unit_sum List.nodup_range (List.mem_range.2 hpn)]
  grind
theorem FG_p {t : Rat} (ht : t ≠ 0) {n : Nat} {F : Nat → Row} (h : Fm t n F) {b p p' : Nat} (hp : p < n) (hp' : p' < n) : Eu t (FG n F b p) (FG n F b p') := by
  by_cases e : p = p'
  · subst e; exact .refl t _
  let A : Nat → Row := fun p z => F p z - unit p z
  let R := ((List.range n).erase p).erase p'
  have q1 : (but n p).Perm (p' :: R) := List.perm_cons_erase ((List.mem_erase_of_ne fun k => e k.symm).2 (List.mem_range.2 hp'))
  have q2 : (but n p').Perm (p :: R) := by
    have := List.perm_cons_erase ((List.mem_erase_of_ne e).2 (List.mem_range.2 hp) : p ∈ (List.range n).erase p')
    rwa [List.erase_comm] at this
  have r1 : Eu t (FG n F b p) (Dv (unit b :: A p' :: R.map A) (List.range n)) := Eu.rows ((q1.map A).cons _) _
  have r2 : Eu t (FG n F b p') (Dv (unit b :: A p :: R.map A) (List.range n)) := Eu.rows ((q2.map A).cons _) _
  refine r1.trans ht (Eu.trans ht ?_ (r2.symm ht))
  refine Eu.exch ht (Un.pow ht p') ((Un.pow ht p).neg ht) ?_
  refine ((Sp.sum (fun p => t ^ p) A R fun q hq => List.mem_map.2 ⟨q, hq, rfl⟩).smul (-1)).congr fun z hz => ?_
  have hzn := List.mem_range.1 hz
  have w1 := h.wt z hzn
  have w2 := (Fm.unit t n).wt z hzn
  have w3 : ((List.range n).map fun p => t ^ p * A p z).sum = 0 := by
    rw [show (fun p => t ^ p * A p z) = fun p => t ^ p * F p z + -1 * (t ^ p * unit p z) from funext fun p => by show t ^ p * (F p z - unit p z) = _; grind, sum_add, sum_smul, w1, w2]
    grind
  have q1' : ((List.range n).erase p).Perm (p' :: R) := q1
  rw [sum_perm (List.perm_cons_erase (List.mem_range.2 hp)), List.map_cons, List.sum_cons, sum_perm q1', List.map_cons, List.sum_cons] at w3
  grind

theorem Dv_neg : ∀ rs : List Row, ∃ e, Sg e ∧ ∀ vs, Dv (rs.map fun r v => - r v) vs = e * Dv rs vs
  | [] => ⟨1, Or.inl rfl, fun vs => by rw [List.map_nil]; grind⟩
  | r :: rs => by
    obtain ⟨e, he, k⟩ := Dv_neg rs
    refine ⟨-1 * e, Sg.mul (Or.inr rfl) he, fun vs => ?_⟩
    have h1 := Dv_head r r (fun v => - r v) (-1) 0 (rs.map fun r v => - r v) vs fun v _ => by grind
    have h2 : Dv (r :: rs.map fun r v => - r v) vs = e * Dv (r :: rs) vs := by
      show lap r (D _) (rd vs) = e * lap r (D rs) (rd vs)
      have h3 : lap r (D (rs.map fun r v => - r v)) (rd vs) = lap r (fun l => e * D rs l) (rd vs) := lap_sub r _ fun l hl => by
        obtain ⟨us, _, rfl⟩ := rd_sub hl
        exact k us
      rw [h3]
      exact lap_smul r _ e fun l => rfl
    rw [List.map_cons, h1, h2]; grind

/-- Forms put into forms. -/
def cmpF (n : Nat) (V U : Nat → Row) : Nat → Row := fun p z => ((List.range n).map fun s => V p s * U s z).sum

theorem unit_add (n p s : Nat) : unit (n + p) (n + s) = unit p s := by
  unfold unit
  by_cases e : s = p
  · rw [if_pos e, if_pos (by omega)]
  · rw [if_neg e, if_neg (by omega)]
/-- Unknowns p for the places ahead of U, n + p for those ahead of V. -/
def vs2 (n : Nat) : List Nat := (List.range n).map (n + ·) ++ List.range n
def Yr (n : Nat) (U : Nat → Row) : Nat → Row := fun p v => unit (n + p) v - if v < n then U p v else 0
def Zr (n : Nat) (V : Nat → Row) : Nat → Row := fun p v => (if n ≤ v then V p (v - n) else 0) - unit p v
theorem vs2_nodup (n : Nat) : (vs2 n).Nodup := by
  refine List.nodup_append.2 ⟨nodup_map List.nodup_range fun x _ y _ e => by omega, List.nodup_range, ?_⟩
  intro a ha c hc e
  obtain ⟨p, _, rfl⟩ := List.mem_map.1 ha
  have := List.mem_range.1 hc
  omega
theorem vs2_sum (n : Nat) (f : Nat → Rat) : ((vs2 n).map f).sum = ((List.range n).map fun p => f (n + p)).sum + ((List.range n).map f).sum := by
  unfold vs2
  rw [List.map_append, List.sum_append, List.map_map]; rfl
theorem vs2_mem {n v : Nat} (h : v ∈ vs2 n) : v < n ∨ ∃ s, s < n ∧ v = n + s := by
  rcases List.mem_append.1 h with h | h
  · obtain ⟨s, hs, rfl⟩ := List.mem_map.1 h; exact Or.inr ⟨s, List.mem_range.1 hs, rfl⟩
  · exact Or.inl (List.mem_range.1 h)

theorem round_way {t : Rat} (ht : t ≠ 0) {n : Nat} {U V : Nat → Row} {b p0 : Nat} (hb : b < n) : Eu t (Dv ((List.range n).map (Yr n U) ++ unit b :: (but n p0).map (Zr n V)) (vs2 n)) (FG n (cmpF n V U) b p0) := by
  let vs := vs2 n
  have hvn : vs.Nodup := vs2_nodup n
  have m0 : ∀ p, p < n → p ∈ vs := fun p hp => List.mem_append_right _ (List.mem_range.2 hp)
  let Y := Yr n U
  let Z := Zr n V
  have split : ∀ f : Nat → Rat, (vs.map f).sum = ((List.range n).map fun p => f (n + p)).sum + ((List.range n).map f).sum := vs2_sum n
  let X : Nat → Row := fun v => if v < n then unit v else U (v - n)
  have X0 : ∀ p, p < n → X p = unit p := fun p hp => if_pos hp
  have X1 : ∀ p, X (n + p) = U p := fun p => by show (if n + p < n then unit (n + p) else U (n + p - n)) = U p; rw [if_neg (by omega), Nat.add_sub_cancel_left]
  have hput : ∀ (r : Row) z, put vs X r z = ((List.range n).map fun p => r (n + p) * U p z).sum + ((List.range n).map fun p => r p * unit p z).sum := fun r z => by
    unfold put
    rw [split]
    congr 1
    · exact sum_congr fun p _ => by rw [X1]
    · exact sum_congr fun p hp => by rw [X0 p (List.mem_range.1 hp)]
  have hunit : ∀ (f : Nat → Rat) z, z < n → ((List.range n).map fun p => f p * unit p z).sum = f z := fun f z hz => by
    rw [sum_pt hz _ fun p _ hne => by rw [show unit p z = 0 from if_neg fun e => hne e.symm]; grind, show unit z z = 1 from if_pos rfl]; grind
  obtain ⟨e, he, k⟩ := Dv_solve (List.range n) X List.nodup_range (fun v hv z _ => by rw [X0 v (List.mem_range.1 hv)]) ((List.range n).map fun p => (Y p, n + p)) (unit b :: (but n p0).map Z) vs
    (by rw [List.map_map]; exact List.Perm.refl _)
    (by
      rw [List.pairwise_map]
      refine List.nodup_range.imp_of_mem fun {p p'} hp hp' hne => ?_
      show unit (n + p) (n + p') - (if n + p' < n then U p (n + p') else 0) = 0
      rw [if_neg (by omega), show unit (n + p) (n + p') = 0 from if_neg (by omega)]; grind)
    (by
      intro a ha
      obtain ⟨p, hp, rfl⟩ := List.mem_map.1 ha
      show unit (n + p) (n + p) - (if n + p < n then U p (n + p) else 0) ≠ 0
      rw [if_neg (by omega), show unit (n + p) (n + p) = 1 from if_pos rfl]; grind)
    (by
      intro a ha z hz
      obtain ⟨p, hp, rfl⟩ := List.mem_map.1 ha
      have hpn := List.mem_range.1 hp
      have hzn := List.mem_range.1 hz
      show put vs X (Y p) z = 0
      rw [hput, hunit (Y p) z hzn, sum_pt hpn _ fun s _ hne => by
        show (unit (n + p) (n + s) - (if n + s < n then U p (n + s) else 0)) * U s z = 0
        rw [if_neg (by omega), show unit (n + p) (n + s) = 0 from if_neg (by omega)]; grind]
      show (unit (n + p) (n + p) - (if n + p < n then U p (n + p) else 0)) * U p z + (unit (n + p) z - if z < n then U p z else 0) = 0
      rw [if_neg (by omega), if_pos hzn, show unit (n + p) (n + p) = 1 from if_pos rfl, show unit (n + p) z = 0 from if_neg (by omega)]; grind)
  rw [List.map_map] at k
  have k' : Dv ((List.range n).map Y ++ unit b :: (but n p0).map Z) vs = _ := k
  rw [k']
  refine (Eu.un ((Un.sg he).mul ht (Un.prd ht fun x hx => ?_))).trans ht ?_
  · rw [List.map_map] at hx
    obtain ⟨p, hp, rfl⟩ := List.mem_map.1 hx
    show Un t (unit (n + p) (n + p) - if n + p < n then U p (n + p) else 0)
    rw [if_neg (by omega), show unit (n + p) (n + p) = 1 from if_pos rfl, show (1 : Rat) - 0 = 1 by grind]
    exact .one t
  · have : Dv ((unit b :: (but n p0).map Z).map (put vs X)) (List.range n) = FG n (cmpF n V U) b p0 := by
      have e1 := Dv_map (f := put vs X) (g := fun r => fun z => put vs X r z) (vs := List.range n) (unit b :: (but n p0).map Z) fun _ _ _ _ => rfl
      unfold FG
      refine Dv_congr (by simp) fun i z hz => ?_
      have hzn := List.mem_range.1 hz
      cases i with
      | zero =>
        show put vs X (unit b) z = unit b z
        rw [put_unit hvn X (m0 b hb), X0 b hb]
      | succ i =>
        simp only [List.map_cons, List.map_map, List.getD_cons_succ]
        by_cases hi : i < (but n p0).length
        · simp only [List.getD_eq_getElem?_getD, List.getElem?_map, List.getElem?_eq_getElem hi, Option.map_some, Option.getD_some, Function.comp]
          have hpn : (but n p0)[i] < n := List.mem_range.1 (List.mem_of_mem_erase (List.getElem_mem hi))
          generalize (but n p0)[i] = p at hpn ⊢
          rw [hput, hunit (Z p) z hzn]
          have e2 : ((List.range n).map fun s => Z p (n + s) * U s z).sum = cmpF n V U p z := sum_congr fun s hs => by
            have := List.mem_range.1 hs
            show ((if n ≤ n + s then V p (n + s - n) else 0) - unit p (n + s)) * U s z = _
            rw [if_pos (by omega), Nat.add_sub_cancel_left, show unit p (n + s) = 0 from if_neg (by omega)]; grind
          rw [e2]
          show cmpF n V U p z + ((if n ≤ z then V p (z - n) else 0) - unit p z) = _
          rw [if_neg (by omega)]; grind
        · simp [List.getD_eq_getElem?_getD, List.getElem?_eq_none (Nat.le_of_not_lt hi)]
    rw [this]
    exact .refl t _

theorem Dv_ren (σ : Nat → Nat) : ∀ (rs : List Row) (us : List Nat), Dv rs (us.map σ) = Dv (rs.map fun r v => r (σ v)) us := by
  have step : ∀ (us : List Nat) (f : List (Row → Rat) → Rat) (g : List (Row → Rat) → Rat) (r : Row), (∀ us : List Nat, f (rd (us.map σ)) = g (rd us)) → lap r f (rd (us.map σ)) = lap (fun v => r (σ v)) g (rd us) := by
    intro us
    induction us with
    | nil => intro f g r _; rfl
    | cons u us ih =>
      intro f g r hfg
      have := ih (fun l => f ((fun r => r (σ u)) :: l)) (fun l => g ((fun r => r u) :: l)) r fun us => hfg (u :: us)
      show r (σ u) * f (rd (us.map σ)) - lap r (fun l => f ((fun r => r (σ u)) :: l)) (rd (us.map σ)) = r (σ u) * g (rd us) - lap (fun v => r (σ v)) (fun l => g ((fun r => r u) :: l)) (rd us)
      rw [hfg, this]
  intro rs
  induction rs with
  | nil => intro us; simp [Dv, D, rd]
  | cons r rs ih => intro us; exact step us (D rs) (D (rs.map fun (r : Row) v => r (σ v))) r ih
theorem Dv_neg1 (u : Row) (rs : List Row) : ∃ e, Sg e ∧ ∀ vs, Dv (u :: rs.map fun r v => - r v) vs = e * Dv (u :: rs) vs := by
  obtain ⟨e, he, k⟩ := Dv_neg rs
  refine ⟨e, he, fun vs => ?_⟩
  show lap u (D (rs.map fun r v => - r v)) (rd vs) = e * lap u (D rs) (rd vs)
  have h3 : lap u (D (rs.map fun r v => - r v)) (rd vs) = lap u (fun l => e * D rs l) (rd vs) := lap_sub u _ fun l hl => by
    obtain ⟨us, _, rfl⟩ := rd_sub hl
    exact k us
  rw [h3]
  exact lap_smul u _ e fun l => rfl

theorem round_back {t : Rat} (ht : t ≠ 0) {n : Nat} {U V : Nat → Row} {b p0 : Nat} (hb : b < n) : Eu t (Dv ((List.range n).map (Zr n V) ++ unit (n + b) :: (but n p0).map (Yr n U)) (vs2 n)) (FG n (cmpF n U V) b p0) := by
  let σ : Nat → Nat := fun v => if v < n then n + v else v - n
  have hp : ((vs2 n).map σ).Perm (vs2 n) := by
    unfold vs2
    rw [List.map_append, List.map_map]
    have e1 : (List.range n).map (σ ∘ (n + ·)) = List.range n := by
      have : (List.range n).map (σ ∘ (n + ·)) = (List.range n).map id := List.map_congr_left fun p _ => by
        show (if n + p < n then n + (n + p) else n + p - n) = p
        rw [if_neg (by omega)]; omega
      rw [this, List.map_id]
    have e2 : (List.range n).map σ = (List.range n).map (n + ·) := List.map_congr_left fun p hp => if_pos (List.mem_range.1 hp)
    rw [e1, e2]
    exact List.perm_append_comm
  obtain ⟨e, he, k⟩ := Dv_cols hp
  obtain ⟨e', he', k'⟩ := Dv_neg1 (unit b) ((List.range n).map (Yr n V) ++ (but n p0).map (Zr n U))
  have h1 : Eu t (Dv ((List.range n).map (Zr n V) ++ unit (n + b) :: (but n p0).map (Yr n U)) (vs2 n)) (Dv (unit (n + b) :: ((List.range n).map (Zr n V) ++ (but n p0).map (Yr n U))) (vs2 n)) := Eu.rows List.perm_middle _
  have h2 : Eu t (Dv ((List.range n).map (Yr n V) ++ unit b :: (but n p0).map (Zr n U)) (vs2 n)) (Dv (unit b :: ((List.range n).map (Yr n V) ++ (but n p0).map (Zr n U))) (vs2 n)) := Eu.rows List.perm_middle _
  refine h1.trans ht (Eu.trans ht ?_ ((h2.symm ht).trans ht (round_way ht hb)))
  have e1 := k (unit (n + b) :: ((List.range n).map (Zr n V) ++ (but n p0).map (Yr n U)))
  rw [Dv_ren] at e1
  have e2 : Dv ((unit (n + b) :: ((List.range n).map (Zr n V) ++ (but n p0).map (Yr n U))).map fun r v => r (σ v)) (vs2 n) = Dv (unit b :: ((List.range n).map (Yr n V) ++ (but n p0).map (Zr n U)).map fun r v => - r v) (vs2 n) := by
    refine Dv_congr (by simp) fun i v hv => ?_
    have key : ∀ p, p < n → Zr n V p (σ v) = - Yr n V p v ∧ Yr n U p (σ v) = - Zr n U p v := by
      intro p hpn
      rcases vs2_mem hv with hv | ⟨s, hs, rfl⟩
      · have hσ : σ v = n + v := if_pos hv
        rw [hσ]
        unfold Zr Yr
        rw [if_pos (show n ≤ n + v by omega), if_pos hv, if_neg (show ¬ n + v < n by omega), if_neg (show ¬ n ≤ v by omega), Nat.add_sub_cancel_left, show unit p (n + v) = 0 from if_neg (by omega), show unit (n + p) v = 0 from if_neg (by omega)]
        have : unit (n + p) (n + v) = unit p v := unit_add n p v
        rw [this]
        constructor <;> grind
      · have hσ : σ (n + s) = s := by show (if n + s < n then n + (n + s) else n + s - n) = s; rw [if_neg (by omega)]; omega
        rw [hσ]
        unfold Zr Yr
        rw [if_neg (show ¬ n ≤ s by omega), if_neg (show ¬ n + s < n by omega), if_pos hs, if_pos (show n ≤ n + s by omega), Nat.add_sub_cancel_left, show unit (n + p) s = 0 from if_neg (by omega), show unit p (n + s) = 0 from if_neg (by omega)]
        have : unit (n + p) (n + s) = unit p s := unit_add n p s
        rw [this]
        constructor <;> grind
    cases i with
    | zero =>
      show unit (n + b) (σ v) = unit b v
      rcases vs2_mem hv with hv | ⟨s, hs, rfl⟩
      · have hσ : σ v = n + v := if_pos hv
        rw [hσ, unit_add]
      · have hσ : σ (n + s) = s := by show (if n + s < n then n + (n + s) else n + s - n) = s; rw [if_neg (by omega)]; omega
        rw [hσ, show unit (n + b) s = 0 from if_neg (by omega), show unit b (n + s) = 0 from if_neg (by omega)]
    | succ i =>
      simp only [List.map_cons, List.map_append, List.map_map, List.getD_eq_getElem?_getD, List.getElem?_cons_succ]
      by_cases hi : i < n
      · rw [List.getElem?_append_left (by simpa using hi), List.getElem?_append_left (by simpa using hi)]
        simp only [List.getElem?_map, List.getElem?_range hi, Option.map_some, Option.getD_some, Function.comp]
        exact (key i hi).1
      · rw [List.getElem?_append_right (by simpa using hi), List.getElem?_append_right (by simpa using hi)]
        simp only [List.length_map, List.length_range]
        by_cases hj : i - n < (but n p0).length
        · simp only [List.getElem?_map, List.getElem?_eq_getElem hj, Option.map_some, Option.getD_some, Function.comp]
          exact (key _ (List.mem_range.1 (List.mem_of_mem_erase (List.getElem_mem hj)))).2
        · simp [List.getElem?_eq_none (Nat.le_of_not_lt hj)]
  rw [e2, k'] at e1
  obtain ⟨c, hc, ec⟩ := (Un.sg (t := t) he).inv ht
  exact ⟨c * e', hc.mul ht (Un.sg he'), by grind⟩

/-- What goes around. -/
theorem FG_round {t : Rat} (ht : t ≠ 0) {n : Nat} {U V : Nat → Row} (hU : Fm t n U) (hV : Fm t n V) {b p0 : Nat} (hb : b < n) (hp0 : p0 < n) : Eu t (FG n (cmpF n V U) b p0) (FG n (cmpF n U V) b p0) := by
  refine ((round_way ht hb).symm ht).trans ht (Eu.trans ht ?_ (round_back ht hb))
  let S := (but n p0).map (Yr n U) ++ (but n p0).map (Zr n V)
  have q : (List.range n).Perm (p0 :: but n p0) := List.perm_cons_erase (List.mem_range.2 hp0)
  have r1 : Eu t (Dv ((List.range n).map (Yr n U) ++ unit b :: (but n p0).map (Zr n V)) (vs2 n)) (Dv (unit b :: Yr n U p0 :: S) (vs2 n)) := by
    refine Eu.rows (List.perm_middle.trans (List.Perm.cons _ ?_)) _
    exact ((q.map (Yr n U)).append_right _)
  have r2 : Eu t (Dv ((List.range n).map (Zr n V) ++ unit (n + b) :: (but n p0).map (Yr n U)) (vs2 n)) (Dv (unit (n + b) :: Zr n V p0 :: S) (vs2 n)) := by
    refine Eu.rows (List.perm_middle.trans (List.Perm.cons _ ?_)) _
    refine ((q.map (Zr n V)).append_right _).trans ?_
    exact List.Perm.cons _ List.perm_append_comm
  refine r1.trans ht (Eu.trans ht ?_ (r2.symm ht))
  have m1 : ∀ p, p < n → n + p ∈ vs2 n := fun p hp => List.mem_append_left _ (List.mem_map.2 ⟨p, List.mem_range.2 hp, rfl⟩)
  have m0 : ∀ p, p < n → p ∈ vs2 n := fun p hp => List.mem_append_right _ (List.mem_range.2 hp)
  have sY : ∀ p, p < n → ((vs2 n).map (Yr n U p)).sum = 0 := fun p hp => by
    rw [vs2_sum, sum_pt hp _ fun s hs hne => by
      show unit (n + p) (n + s) - (if n + s < n then U p (n + s) else 0) = 0
      rw [if_neg (by omega), show unit (n + p) (n + s) = 0 from if_neg (by omega)]; grind]
    have e1 : ((List.range n).map (Yr n U p)).sum = ((List.range n).map fun s => -1 * U p s).sum := sum_congr fun s hs => by
      have := List.mem_range.1 hs
      show unit (n + p) s - (if s < n then U p s else 0) = _
      rw [if_pos this, show unit (n + p) s = 0 from if_neg (by omega)]; grind
    rw [e1, sum_smul, hU.one p hp]
    show unit (n + p) (n + p) - (if n + p < n then U p (n + p) else 0) + _ = 0
    rw [if_neg (by omega), show unit (n + p) (n + p) = 1 from if_pos rfl]; grind
  have sZ : ∀ p, p < n → ((vs2 n).map (Zr n V p)).sum = 0 := fun p hp => by
    have e1 : ((List.range n).map fun s => Zr n V p (n + s)).sum = ((List.range n).map (V p)).sum := sum_congr fun s hs => by
      have := List.mem_range.1 hs
      show (if n ≤ n + s then V p (n + s - n) else 0) - unit p (n + s) = _
      rw [if_pos (by omega), Nat.add_sub_cancel_left, show unit p (n + s) = 0 from if_neg (by omega)]; grind
    rw [vs2_sum, e1, hV.one p hp, sum_pt hp _ fun s hs hne => by
      show (if n ≤ s then V p (s - n) else 0) - unit p s = 0
      rw [if_neg (by omega), show unit p s = 0 from if_neg hne]; grind]
    show 1 + ((if n ≤ p then V p (p - n) else 0) - unit p p) = 0
    rw [if_neg (by omega), show unit p p = 1 from if_pos rfl]; grind
  have hnorm := Dv_norm (vs := vs2 n) (rs := Yr n U p0 :: S) (u := unit b) (w := unit (n + b)) (fun r hr => by
      rcases List.mem_cons.1 hr with rfl | hr
      · exact sY p0 hp0
      · rcases List.mem_append.1 hr with hr | hr
        · obtain ⟨p, hp, rfl⟩ := List.mem_map.1 hr; exact sY p (List.mem_range.1 (List.mem_of_mem_erase hp))
        · obtain ⟨p, hp, rfl⟩ := List.mem_map.1 hr; exact sZ p (List.mem_range.1 (List.mem_of_mem_erase hp))) (by rw [unit_sum (vs2_nodup n) (m0 b hb), unit_sum (vs2_nodup n) (m1 b hb)])
  rw [hnorm]
  refine Eu.exch ht (Un.pow ht p0) (Un.pow ht p0) ?_
  have s1 := Sp.sum (vs := vs2 n) (rs := S) (fun p => t ^ p) (Yr n U) (but n p0) fun p hp => List.mem_append_left _ (List.mem_map.2 ⟨p, hp, rfl⟩)
  have s2 := Sp.sum (vs := vs2 n) (rs := S) (fun p => t ^ p) (Zr n V) (but n p0) fun p hp => List.mem_append_right _ (List.mem_map.2 ⟨p, hp, rfl⟩)
  refine ((s1.smul (-1)).plus s2).congr fun v hv => ?_
  have a1 := sum_perm q fun p => t ^ p * Yr n U p v
  have a2 := sum_perm q fun p => t ^ p * Zr n V p v
  rw [List.map_cons, List.sum_cons] at a1 a2
  have a3 : ((List.range n).map fun p => t ^ p * Yr n U p v).sum = ((List.range n).map fun p => t ^ p * Zr n V p v).sum := by
    rcases vs2_mem hv with hv | ⟨s, hs, rfl⟩
    · have b1 : ((List.range n).map fun p => t ^ p * Yr n U p v).sum = ((List.range n).map fun p => -1 * (t ^ p * U p v)).sum := sum_congr fun p hp => by
        have := List.mem_range.1 hp
        unfold Yr
        rw [if_pos hv, show unit (n + p) v = 0 from if_neg (by omega)]; grind
      have b2 : ((List.range n).map fun p => t ^ p * Zr n V p v).sum = ((List.range n).map fun p => -1 * (t ^ p * unit p v)).sum := sum_congr fun p hp => by
        unfold Zr
        rw [if_neg (by omega)]; grind
      rw [b1, b2, sum_smul, sum_smul, hU.wt v hv, (Fm.unit t n).wt v hv]
    · have b1 : ((List.range n).map fun p => t ^ p * Yr n U p (n + s)).sum = ((List.range n).map fun p => t ^ p * unit p s).sum := sum_congr fun p hp => by
        unfold Yr
        have : unit (n + p) (n + s) = unit p s := unit_add n p s
        rw [if_neg (by omega), this]; grind
      have b2 : ((List.range n).map fun p => t ^ p * Zr n V p (n + s)).sum = ((List.range n).map fun p => t ^ p * V p s).sum := sum_congr fun p hp => by
        have := List.mem_range.1 hp
        unfold Zr
        rw [if_pos (by omega), Nat.add_sub_cancel_left, show unit p (n + s) = 0 from if_neg (by omega)]; grind
      rw [b1, b2, hV.wt s hs, (Fm.unit t n).wt s hs]
  grind
end Go.Proofs.YtdelekkbkpldjaaDoor.Kn

/- Closed words by their tables, plain: what goes around, what is undone, one strand more, a strand that nothing touches. -/
namespace Go.Proofs.YtdelekkbkpldjaaDoor.Kn
set_option linter.unusedVariables false

/-- The forms behind a word. -/
def outF (t : Rat) (w : List Int) (x : Nat → Row) : Nat → Row := w.foldl (fun x a => stepF t a x) x
theorem lev_out (t : Rat) (w : List Int) : ∀ k, k ≤ w.length → levF t w k = outF t (w.take k) unit
  | 0, _ => rfl
  | k + 1, h => by
    have hk : k < w.length := by omega
    have e1 : w.take (k + 1) = w.take k ++ [w[k]] := by rw [List.take_succ_eq_append_getElem hk]
    show stepF t (w.getD k 0) (levF t w k) = _
    rw [lev_out t w k (by omega), e1]
    unfold outF
    rw [List.foldl_append]
    show stepF t (w.getD k 0) _ = stepF t w[k] _
    rw [List.getD_eq_getElem?_getD, List.getElem?_eq_getElem hk]
    rfl
theorem lev_all (t : Rat) (w : List Int) : levF t w w.length = outF t w unit := by rw [lev_out t w _ (Nat.le_refl _), List.take_length]
def LetsM (n : Nat) (w : List Int) : Prop := ∀ a ∈ w, Let n a
theorem LetsM.lets {n : Nat} {w : List Int} (h : LetsM n w) : Lets n w := fun k hk => by
  rw [List.getD_eq_getElem?_getD, List.getElem?_eq_getElem hk]
  exact h _ (List.getElem_mem hk)
theorem LetsM.app {n : Nat} {u v : List Int} (h : LetsM n u) (k : LetsM n v) : LetsM n (u ++ v) := fun a ha => (List.mem_append.1 ha).elim (h a) (k a)
def recip (w : List Int) : List Int := (w.map fun a => -a).reverse
theorem LetsM.recip {n : Nat} {w : List Int} (h : LetsM n w) : LetsM n (recip w) := fun a ha => by
  obtain ⟨c, hc, rfl⟩ := List.mem_map.1 (List.mem_reverse.1 ha)
  have := h c hc
  exact ⟨fun e => this.ne (by omega), by have := this.lt; omega⟩
theorem outF_app (t : Rat) (u v : List Int) (x : Nat → Row) : outF t (u ++ v) x = outF t v (outF t u x) := List.foldl_append

theorem step_back {t : Rat} (ht : t ≠ 0) {a : Int} (ha : a ≠ 0) (x : Nat → Row) : stepF t (-a) (stepF t a x) = x := by
  funext p z
  have h0 : a.natAbs ≠ 0 := fun e => ha (Int.natAbs_eq_zero.1 e)
  have hne : ¬ a.natAbs - 1 + 1 = a.natAbs - 1 := by omega
  unfold stepF
  rw [Int.natAbs_neg]
  by_cases hs : 0 < a
  · simp only [if_pos hs, if_neg (show ¬ 0 < -a by omega), if_true, if_neg hne]
    split
    · next e => rw [e]
    · split
      · next e => rw [e]; grind
      · rfl
  · simp only [if_neg hs, if_pos (show 0 < -a by omega), if_true, if_neg hne]
    split
    · next e => rw [e]; grind
    · split
      · next e => rw [e]
      · rfl
theorem out_recip {t : Rat} (ht : t ≠ 0) : ∀ (v : List Int), (∀ a ∈ v, a ≠ 0) → ∀ x, outF t (v ++ recip v) x = x
  | [], _, x => rfl
  | a :: v, h, x => by
    have e : (a :: v) ++ recip (a :: v) = a :: ((v ++ recip v) ++ [-a]) := by simp [recip]
    have ih := out_recip ht v (fun c hc => h c (List.mem_cons_of_mem _ hc)) (stepF t a x)
    rw [e]
    show outF t ((v ++ recip v) ++ [-a]) (stepF t a x) = x
    rw [outF_app, ih]
    exact step_back ht (h a List.mem_cons_self) x
theorem recip_recip (v : List Int) : recip (recip v) = v := by
  unfold recip
  rw [List.map_reverse, List.reverse_reverse, List.map_map]
  have : (v.map ((fun a : Int => -a) ∘ fun a => -a)) = v.map id := List.map_congr_left fun a _ => by show - -a = a; omega
  rw [this, List.map_id]

theorem step_cmp {t : Rat} {n : Nat} {a : Int} (ha : Let n a) {V V' U : Nat → Row} (h : ∀ p, p < n → V' p = cmpF n V U p) : ∀ p, p < n → stepF t a V' p = cmpF n (stepF t a V) U p := by
  intro p hp
  have h0 : a.natAbs ≠ 0 := fun e => ha.ne (Int.natAbs_eq_zero.1 e)
  have h1 := ha.lt
  have e1 := h (a.natAbs - 1) (by omega)
  have e2 := h (a.natAbs - 1 + 1) (by omega)
  have e3 := h p hp
  funext z
  unfold stepF cmpF
  by_cases hs : 0 < a
  · simp only [if_pos hs]
    split
    · rw [e1, e2]
      unfold cmpF
      dsimp only
      rw [← sum_smul, ← sum_smul, ← sum_add]
      exact sum_congr fun s _ => by grind
    · split
      · rw [e1]; rfl
      · rw [e3]; rfl
  · simp only [if_neg hs]
    split
    · rw [e2]; rfl
    · split
      · rw [e1, e2]
        unfold cmpF
        dsimp only
        rw [← sum_smul, ← sum_add, ← sum_smul]
        exact sum_congr fun s _ => by grind
      · rw [e3]; rfl
theorem out_cmp {t : Rat} {n : Nat} (U : Nat → Row) : ∀ {v : List Int}, LetsM n v → ∀ {V V' : Nat → Row}, (∀ p, p < n → V' p = cmpF n V U p) → ∀ p, p < n → outF t v V' p = cmpF n (outF t v V) U p
  | [], _, _, _, h => h
  | a :: v, hv, V, V', h => out_cmp U (fun c hc => hv c (List.mem_cons_of_mem _ hc)) (step_cmp (hv a List.mem_cons_self) h)
theorem cmp_unit {n : Nat} (U : Nat → Row) : ∀ p, p < n → U p = cmpF n unit U p := fun p hp => by
  funext z
  unfold cmpF
  rw [sum_pt hp _ fun s _ hne => by rw [show unit p s = 0 from if_neg hne]; grind, show unit p p = 1 from if_pos rfl]; grind

theorem FG_congr {n : Nat} {F F' : Nat → Row} (h : ∀ p, p < n → F p = F' p) (b p0 : Nat) : FG n F b p0 = FG n F' b p0 := by
  unfold FG
  congr 2
  refine List.map_congr_left fun p hp => ?_
  rw [h p (List.mem_range.1 (List.mem_of_mem_erase hp))]
theorem Fm.out {t : Rat} (ht : t ≠ 0) {n : Nat} : ∀ {w : List Int}, LetsM n w → ∀ {x : Nat → Row}, Fm t n x → Fm t n (outF t w x)
  | [], _, _, h => h
  | a :: w, hw, x, h => Fm.out ht (fun c hc => hw c (List.mem_cons_of_mem _ hc)) (h.step ht (hw a List.mem_cons_self))

/-- What is told of a closed word. -/
def AL (t : Rat) (n : Nat) (w : List Int) : Rat := FG n (outF t w unit) (n - 1) (n - 1)
theorem AL_round {t : Rat} (ht : t ≠ 0) {n : Nat} (hn : 0 < n) {u v : List Int} (hu : LetsM n u) (hv : LetsM n v) : Eu t (AL t n (u ++ v)) (AL t n (v ++ u)) := by
  unfold AL
  rw [outF_app, outF_app]
  have e1 : ∀ p, p < n → outF t v (outF t u unit) p = cmpF n (outF t v unit) (outF t u unit) p := out_cmp _ hv (cmp_unit _)
  have e2 : ∀ p, p < n → outF t u (outF t v unit) p = cmpF n (outF t u unit) (outF t v unit) p := out_cmp _ hu (cmp_unit _)
  rw [FG_congr e1, FG_congr e2]
  exact FG_round ht (Fm.out ht hu (.unit t n)) (Fm.out ht hv (.unit t n)) (by omega) (by omega)
theorem AL_conj {t : Rat} (ht : t ≠ 0) {n : Nat} (hn : 0 < n) {w v : List Int} (hw : LetsM n w) (hv : LetsM n v) : Eu t (AL t n (v ++ w ++ recip v)) (AL t n w) := by
  rw [List.append_assoc]
  refine (AL_round ht hn hv (hw.app hv.recip)).trans ht ?_
  have : AL t n (w ++ recip v ++ v) = AL t n w := by
    unfold AL
    rw [List.append_assoc, outF_app]
    have := out_recip ht (recip v) (fun a ha => (hv.recip a ha).ne) (outF t w unit)
    rw [recip_recip] at this
    rw [this]
  rw [this]
  exact .refl t _

/-- A strand that nothing touches. -/
theorem out_free {t : Rat} {p : Nat} : ∀ {w : List Int}, (∀ a ∈ w, a ≠ 0 ∧ p ≠ a.natAbs - 1 ∧ p ≠ a.natAbs) → ∀ x, outF t w x p = x p
  | [], _, x => rfl
  | a :: w, h, x => by
    have h1 := h a List.mem_cons_self
    have := out_free (t := t) (fun c hc => h c (List.mem_cons_of_mem _ hc)) (stepF t a x)
    show outF t w (stepF t a x) p = x p
    rw [this]
    have h0 : a.natAbs ≠ 0 := fun e => h1.1 (Int.natAbs_eq_zero.1 e)
    unfold stepF
    split
    · rw [if_neg h1.2.1, if_neg (by omega)]
    · rw [if_neg h1.2.1, if_neg (by omega)]
theorem FG_free {n : Nat} {F : Nat → Row} {p b p0 : Nat} (hp : p < n) (hne : p ≠ p0) (h : F p = unit p) : FG n F b p0 = 0 := by
  have hm : p ∈ but n p0 := (List.mem_erase_of_ne hne).2 (List.mem_range.2 hp)
  have hp1 := (List.perm_cons_erase hm).map fun p z => F p z - unit p z
  obtain ⟨e, _, k⟩ := Dv_rows ((hp1.cons (unit b)).trans (List.Perm.swap _ _ _))
  unfold FG
  rw [k, Dv_zero (fun v _ => by show F p v - unit p v = 0; rw [h]; grind)]
  grind
theorem AL_free {t : Rat} (ht : t ≠ 0) {n : Nat} (hn : 2 ≤ n) {w : List Int} (hw : LetsM n w) {p : Nat} (hp : p < n) (h : ∀ a ∈ w, p ≠ a.natAbs - 1 ∧ p ≠ a.natAbs) : AL t n w = 0 := by
  have hF := Fm.out ht hw (.unit t n)
  have hu := out_free (t := t) (fun a ha => ⟨(hw a ha).ne, h a ha⟩) unit
  obtain ⟨p1, hp1, hne⟩ : ∃ p1, p1 < n ∧ p ≠ p1 := by
    by_cases e : p = 0
    · exact ⟨1, by omega, by omega⟩
    · exact ⟨0, by omega, e⟩
  have h1 : Eu t (AL t n w) (FG n (outF t w unit) (n - 1) p1) := FG_p ht hF (by omega) hp1
  rw [FG_free hp hne hu] at h1
  exact h1.zero

/-- One strand more. -/
theorem out_sup {t : Rat} {n : Nat} : ∀ {w : List Int}, LetsM n w → ∀ {x : Nat → Row}, (∀ p, p < n → x p n = 0) → ∀ p, p < n → outF t w x p n = 0
  | [], _, _, h => h
  | a :: w, hw, x, h => out_sup (fun c hc => hw c (List.mem_cons_of_mem _ hc)) fun p hp => by
    have ha := hw a List.mem_cons_self
    have h0 : a.natAbs ≠ 0 := fun e => ha.ne (Int.natAbs_eq_zero.1 e)
    have h1 := ha.lt
    have e1 := h (a.natAbs - 1) (by omega)
    have e2 := h (a.natAbs - 1 + 1) (by omega)
    have e3 := h p hp
    show stepF t a x p n = 0
    unfold stepF
    by_cases hs : 0 < a
    · simp only [if_pos hs]
      split
      · dsimp only; rw [e1, e2]; grind
      · split
        · exact e1
        · exact e3
    · simp only [if_neg hs]
      split
      · exact e2
      · split
        · dsimp only; rw [e1, e2]; grind
        · exact e3
theorem AL_more {t : Rat} (ht : t ≠ 0) {n : Nat} (hn : 2 ≤ n) {w : List Int} (hw : LetsM n w) {a : Int} (ha : a.natAbs = n) : Eu t (AL t (n + 1) (w ++ [a])) (AL t n w) := by
  have ha0 : a ≠ 0 := fun e => by subst e; simp at ha; omega
  have hw' : LetsM (n + 1) w := fun c hc => ⟨(hw c hc).ne, by have := (hw c hc).lt; omega⟩
  have hwa : LetsM (n + 1) (w ++ [a]) := hw'.app fun c hc => by rw [List.mem_singleton.1 hc]; exact ⟨ha0, by omega⟩
  have hF := Fm.out ht hwa (.unit t (n + 1))
  let G := outF t w unit
  have hG : outF t (w ++ [a]) unit = stepF t a G := by rw [outF_app]; rfl
  have hGn : G n = unit n := out_free (fun c hc => ⟨(hw c hc).ne, by have := (hw c hc).lt; omega, by have := (hw c hc).lt; omega⟩) unit
  have hG0 : ∀ p, p < n → G p n = 0 := out_sup hw fun p hp => if_neg (by omega)
  have h1 : Eu t (AL t (n + 1) (w ++ [a])) (FG (n + 1) (outF t (w ++ [a]) unit) 0 (n - 1)) := by
    unfold AL
    rw [FG_b hF (b := n + 1 - 1) (b' := 0) (by omega) (by omega)]
    exact FG_p ht hF (by omega) (by omega)
  have h2 : Eu t (AL t n w) (FG n G 0 (n - 1)) := by
    unfold AL
    rw [FG_b (Fm.out ht hw (.unit t n)) (b := n - 1) (b' := 0) (by omega) (by omega)]
    exact .refl t _
  refine h1.trans ht (Eu.trans ht ?_ (h2.symm ht))
  rw [hG]
  let R := List.range (n - 1)
  have hb1 : but n (n - 1) = R := by
    obtain ⟨m, rfl⟩ : ∃ m, n = m + 1 := ⟨n - 1, by omega⟩
    unfold but
    rw [Nat.add_sub_cancel, List.range_succ, List.erase_append_right _ (by simp)]
    simp [R]
  have hb2 : (but (n + 1) (n - 1)).Perm (n :: R) := by
    have : but (n + 1) (n - 1) = R ++ [n] := by
      rw [← hb1]
      unfold but
      rw [List.range_succ, List.erase_append_left _ (List.mem_range.2 (by omega))]
    rw [this]
    exact List.perm_append_comm
  let A : Nat → Row := fun p z => stepF t a G p z - unit p z
  have hi : a.natAbs - 1 + 1 = n := by omega
  have hA : ∀ p, p < n - 1 → ∀ z, A p z = G p z - unit p z := by
    intro p hp z
    show stepF t a G p z - unit p z = _
    have : stepF t a G p = G p := by
      unfold stepF
      split
      · rw [if_neg (by omega), if_neg (by omega)]
      · rw [if_neg (by omega), if_neg (by omega)]
    rw [this]
  -- the row that takes the new place out
  have hAn : ∃ c, Un t c ∧ ∀ z, A n z = c * (G (n - 1) z - unit n z) := by
    by_cases hs : 0 < a
    · refine ⟨1, .one t, fun z => ?_⟩
      show stepF t a G n z - unit n z = _
      have : stepF t a G n = G (n - 1) := by
        unfold stepF
        simp only [if_pos hs]
        rw [if_neg (by omega), if_pos (by omega), show a.natAbs - 1 = n - 1 by omega]
      rw [this]; grind
    · obtain ⟨c, hc, e⟩ := (Un.self t).inv ht
      refine ⟨c, hc, fun z => ?_⟩
      show stepF t a G n z - unit n z = _
      have : stepF t a G n z = t⁻¹ * (G (n - 1) z + (t - 1) * unit n z) := by
        unfold stepF
        simp only [if_neg hs]
        rw [if_neg (by omega), if_pos (by omega), hi, hGn, show a.natAbs - 1 = n - 1 by omega]
      rw [this]
      have : t⁻¹ = c := by grind
      rw [this]; grind
  obtain ⟨c, hc, hAn⟩ := hAn
  have hp1 : Eu t (FG (n + 1) (stepF t a G) 0 (n - 1)) (Dv (A n :: unit 0 :: R.map A) (List.range (n + 1))) := by
    refine Eu.rows ?_ _
    have := (hb2.map A).cons (unit 0)
    exact this.trans (List.Perm.swap _ _ _)
  refine hp1.trans ht ?_
  have hpc : (List.range (n + 1)).Perm (n :: List.range n) := by rw [List.range_succ]; exact List.perm_append_comm
  obtain ⟨e, he, k⟩ := Dv_cols hpc
  have hpiv : A n n = c * -1 := by rw [hAn, hG0 (n - 1) (by omega), show unit n n = 1 from if_pos rfl]; grind
  have hcu : Un t (c * -1) := hc.mul ht (.neg_one t)
  rw [k, Dv_out (by rw [hpiv]; exact hcu.ne ht), hpiv]
  refine (Eu.un (Un.sg he)).trans ht ((Eu.un hcu).trans ht ?_)
  have hrest : Dv ((unit 0 :: R.map A).map fun s v => s v - s n / (c * -1) * A n v) (List.range n) = FG n G 0 (n - 1) := by
    unfold FG
    rw [hb1]
    refine Dv_congr (by simp) fun i z hz => ?_
    have hzn := List.mem_range.1 hz
    cases i with
    | zero =>
      show unit 0 z - unit 0 n / (c * -1) * A n z = unit 0 z
      rw [show unit 0 n = 0 from if_neg (by omega)]; grind
    | succ i =>
      by_cases hi' : i < n - 1
      · simp only [List.map_cons, List.map_map, List.getD_eq_getElem?_getD, List.getElem?_cons_succ, List.getElem?_map, R, List.getElem?_range hi', Option.map_some, Option.getD_some, Function.comp]
        rw [hA i hi', hA i hi', hG0 i (by omega), show unit i n = 0 from if_neg (by omega)]; grind
      · have : R.length ≤ i := by simp [R]; omega
        simp [List.getD_eq_getElem?_getD, List.getElem?_eq_none this]
  rw [hrest]
  exact .refl t _

theorem AL_is {t : Rat} {n : Nat} (hn : 0 < n) (w : List Int) : Eu t (AL t n w) (Dv ((List.range (n - 1)).map fun p z => outF t w unit p z - unit p z) (List.range (n - 1))) := by
  obtain ⟨m, rfl⟩ : ∃ m, n = m + 1 := ⟨n - 1, by omega⟩
  have hb1 : but (m + 1) m = List.range m := by
    unfold but
    rw [List.range_succ, List.erase_append_right _ (by simp)]
    simp
  unfold AL FG
  rw [Nat.add_sub_cancel, hb1]
  exact Dv_last _
end Go.Proofs.YtdelekkbkpldjaaDoor.Kn

/- Closed words, plain: which crossing a place comes to next; arcs numbered along the strands; what Close reckons. -/
namespace Go.Proofs.YtdelekkbkpldjaaDoor.Kn
set_option linter.unusedVariables false

/-- The left place of a letter at a level; which places it touches. -/
def iw (w : List Int) (k : Nat) : Nat := (w.getD k 0).natAbs - 1
def Tch (w : List Int) (k p : Nat) : Prop := k < w.length ∧ (p = iw w k ∨ p = iw w k + 1)
instance (w : List Int) (k p : Nat) : Decidable (Tch w k p) := inferInstanceAs (Decidable (_ ∧ (_ ∨ _)))
/-- The first level from k on, of d levels, at which a place is touched. -/
def upT (w : List Int) (p : Nat) : Nat → Nat → Nat
  | 0, k => k
  | d + 1, k => if Tch w k p then k else upT w p d (k + 1)
def nxT (w : List Int) (k p : Nat) : Nat := if upT w p (w.length - k) k < w.length then upT w p (w.length - k) k else upT w p w.length 0
theorem upT_le (w : List Int) (p : Nat) : ∀ d k, upT w p d k ≤ k + d
  | 0, k => Nat.le_refl _
  | d + 1, k => by
    unfold upT
    split
    · omega
    · have := upT_le w p d (k + 1); omega
theorem upT_is (w : List Int) (p : Nat) : ∀ d k, k + d = w.length → upT w p d k < w.length → Tch w (upT w p d k) p
  | 0, k, h, h1 => by simp only [upT] at h1; omega
  | d + 1, k, h, h1 => by
    unfold upT at h1 ⊢
    split
    · assumption
    · rw [if_neg (by assumption)] at h1
      exact upT_is w p d (k + 1) (by omega) h1
theorem upT_find (w : List Int) (p : Nat) : ∀ d k, k + d = w.length → ∀ j, k ≤ j → Tch w j p → upT w p d k ≤ j
  | 0, k, h, j, hj, ht => by have := ht.1; omega
  | d + 1, k, h, j, hj, ht => by
    unfold upT
    split
    · exact hj
    · rename_i hn
      refine upT_find w p d (k + 1) (by omega) j ?_ ht
      by_cases c : k = j
      · subst c; exact absurd ht hn
      · omega
theorem upT_const {α : Type} {w : List Int} {p : Nat} {f : Nat → α} (h : ∀ k, k < w.length → ¬ Tch w k p → f (k + 1) = f k) : ∀ d k, k + d = w.length → f (upT w p d k) = f k
  | 0, k, _ => rfl
  | d + 1, k, hk => by
    unfold upT
    split
    · rfl
    · rename_i hn
      rw [upT_const h d (k + 1) (by omega), h k (by omega) hn]
theorem nxT_touch {w : List Int} {k p : Nat} (h : Tch w k p) : nxT w k p = k := by
  have hk := h.1
  have e : upT w p (w.length - k) k = k := by
    rw [show w.length - k = (w.length - k - 1) + 1 by omega, upT, if_pos h]
  unfold nxT
  rw [e, if_pos hk]
theorem nxT_on {w : List Int} {k p : Nat} (hk : k < w.length) (h : ¬ Tch w k p) : nxT w (k + 1) p = nxT w k p := by
  have e : upT w p (w.length - k) k = upT w p (w.length - (k + 1)) (k + 1) := by
    rw [show w.length - k = (w.length - (k + 1)) + 1 by omega, upT, if_neg h]
  unfold nxT
  rw [e]
theorem nxT_round (w : List Int) (p : Nat) : nxT w w.length p = nxT w 0 p := by
  unfold nxT
  rw [Nat.sub_self, Nat.sub_zero, upT, if_neg (Nat.lt_irrefl _)]
  split <;> rfl
theorem nxT_is {w : List Int} {p : Nat} (h : ∃ j, Tch w j p) {k : Nat} (hk : k ≤ w.length) : Tch w (nxT w k p) p := by
  obtain ⟨j, hj⟩ := h
  unfold nxT
  split
  · exact upT_is w p _ k (by omega) (by assumption)
  · exact upT_is w p _ 0 (by omega) (Nat.lt_of_le_of_lt (upT_find w p _ 0 (by omega) j (Nat.zero_le _) hj) hj.1)
/-- What is the same from level to level where nothing is touched is told at the next touch. -/
theorem nxT_const {α : Type} {w : List Int} {p : Nat} {f : Nat → α} (h : ∀ k, k < w.length → ¬ Tch w k p → f (k + 1) = f k) (hc : f w.length = f 0) {k : Nat} (hk : k ≤ w.length) : f (nxT w k p) = f k := by
  have e := upT_const h (w.length - k) k (by omega)
  unfold nxT
  split
  · exact e
  · have h1 := upT_le w p (w.length - k) k
    rw [show upT w p (w.length - k) k = w.length by omega] at e
    rw [upT_const h w.length 0 (by omega), ← e, hc]
/-- Where a strand goes at a crossing; where it passes next. -/
def opT (w : List Int) (k p : Nat) : Nat := if p = iw w k then iw w k + 1 else iw w k
def npT (w : List Int) (x : Nat × Nat) : Nat × Nat := (nxT w (x.1 + 1) (opT w x.1 x.2), opT w x.1 x.2)
/-- The place at a level of the strand that begins at a place. -/
def stP (w : List Int) (k p : Nat) : Nat := if Tch w k p then opT w k p else p
def plW (w : List Int) : Nat → Nat → Nat
  | 0, q => q
  | k + 1, q => stP w k (plW w k q)
theorem opT_tch {w : List Int} {k p : Nat} (h : Tch w k p) : Tch w k (opT w k p) := by
  refine ⟨h.1, ?_⟩
  unfold opT
  split
  · exact .inr rfl
  · exact .inl rfl
theorem opT_opT {w : List Int} {k p : Nat} (h : Tch w k p) : opT w k (opT w k p) = p := by
  have h2 := h.2
  unfold opT
  by_cases c : p = iw w k
  · rw [if_pos c, if_neg (by omega)]; exact c.symm
  · rw [if_neg c, if_pos rfl]; omega
theorem stP_stP (w : List Int) (k p : Nat) : stP w k (stP w k p) = p := by
  unfold stP
  by_cases c : Tch w k p
  · rw [if_pos c, if_pos (opT_tch c), opT_opT c]
  · rw [if_neg c, if_neg c]
theorem stP_inj {w : List Int} {k p q : Nat} (h : stP w k p = stP w k q) : p = q := by
  rw [← stP_stP w k p, h, stP_stP]
theorem plW_inj {w : List Int} : ∀ {k p q : Nat}, plW w k p = plW w k q → p = q
  | 0, _, _, h => h
  | k + 1, _, _, h => plW_inj (stP_inj h)
theorem stP_lt {n : Nat} {w : List Int} (hw : LetsM n w) {k p : Nat} (hp : p < n) : stP w k p < n := by
  unfold stP
  split
  · rename_i h
    have hl := h.1
    have ha := hw (w.getD k 0) (by rw [List.getD_eq_getElem?_getD, List.getElem?_eq_getElem hl]; exact List.getElem_mem hl)
    have h0 := ha.ne
    have h1 := ha.lt
    unfold opT
    split <;> unfold iw <;> omega
  · exact hp
theorem plW_lt {n : Nat} {w : List Int} (hw : LetsM n w) : ∀ {k p : Nat}, p < n → plW w k p < n
  | 0, _, h => h
  | k + 1, _, h => stP_lt hw (plW_lt hw (k := k) h)
theorem plW_onto {n : Nat} {w : List Int} (hw : LetsM n w) : ∀ (k : Nat) {p : Nat}, p < n → ∃ q, q < n ∧ plW w k q = p
  | 0, p, h => ⟨p, h, rfl⟩
  | k + 1, p, h => by
    obtain ⟨q, hq, e⟩ := plW_onto hw k (stP_lt hw (k := k) h)
    exact ⟨q, hq, by rw [plW, e, stP_stP]⟩

/-- The state of a walk: the strand's place (from 1 on), the next number, the numbers of all passes, where the last one went out. -/
structure CS where
  at_ : Nat
  nx : Nat
  A : List Nat
  la : Option Nat
def stepC (k : Nat) (a : Int) (s : CS) : CS :=
  if s.at_ = a.natAbs then ⟨a.natAbs + 1, s.nx + 1, (s.A.set (4 * k) s.nx).set (4 * k + 1) (s.nx + 1), some (4 * k + 1)⟩
  else if s.at_ = a.natAbs + 1 then ⟨a.natAbs, s.nx + 1, (s.A.set (4 * k + 2) s.nx).set (4 * k + 3) (s.nx + 1), some (4 * k + 3)⟩
  else s
def passC (w : List Int) : Nat → CS → CS
  | 0, s => s
  | k + 1, s => stepC k (w.getD k 0) (passC w k s)
def strandC (w : List Int) : Nat → List Bool → CS → Option (List Bool × CS)
  | 0, _, _ => none
  | f + 1, W, s => if W.getD s.at_ false then some (W, s) else strandC w f (W.set s.at_ true) (passC w w.length s)
structure CL where
  W : List Bool
  nx : Nat
  A : List Nat
  loops : Nat
def placeC (n : Nat) (w : List Int) (p : Nat) (s : CL) : Option CL :=
  if s.W.getD p false then some s else
  match strandC w (n + 1) s.W ⟨p, s.nx, s.A, none⟩ with
  | none => none
  | some (W, t) => match t.la with
    | some c => some ⟨W, t.nx, t.A.set c s.nx, s.loops⟩
    | none => some ⟨W, t.nx, t.A, s.loops + 1⟩
def closeC (n : Nat) (w : List Int) : Nat → Option CL
  | 0 => some ⟨List.replicate (n + 1) false, 1, List.replicate (4 * w.length) 0, 0⟩
  | p + 1 => (closeC n w p).bind (placeC n w (p + 1))

/-- Where the numbers of a pass stand. -/
def cellT (w : List Int) (x : Nat × Nat) : Nat := 4 * x.1 + 2 * (x.2 - iw w x.1)
def TchX (w : List Int) (x : Nat × Nat) : Prop := Tch w x.1 x.2
theorem cellT_lt {w : List Int} {x : Nat × Nat} (h : TchX w x) : cellT w x + 1 < 4 * w.length := by
  have h1 := h.1
  have h2 := h.2
  unfold cellT; omega
theorem cellT_inj {w : List Int} {x y : Nat × Nat} (hx : TchX w x) (hy : TchX w y) {i j : Nat} (hi : i < 2) (hj : j < 2) (e : cellT w x + i = cellT w y + j) : x = y ∧ i = j := by
  have h2 := hx.2
  have k2 := hy.2
  unfold cellT at e
  have e1 : x.1 = y.1 := by omega
  rw [e1] at e h2
  exact ⟨Prod.ext e1 (by omega), by omega⟩
theorem getD_set' {α : Type} (l : List α) (i j : Nat) (x d : α) : (l.set i x).getD j d = if j = i ∧ i < l.length then x else l.getD j d := by
  rw [List.getD_eq_getElem?_getD, List.getD_eq_getElem?_getD, List.getElem?_set]
  by_cases c : i = j
  · subst c
    rw [if_pos rfl]
    by_cases c2 : i < l.length
    · rw [if_pos c2, if_pos ⟨rfl, c2⟩]; rfl
    · rw [if_neg c2, if_neg fun h => c2 h.2, List.getElem?_eq_none (by omega)]
  · rw [if_neg c, if_neg fun h => c h.1.symm]

/-- Passes S in the order of the walk, O the numbers with which they go out, and what the memory holds. -/
structure InvC (w : List Int) (A : List Nat) (nx : Nat) (S : List (Nat × Nat)) (O : List Nat) : Prop where
  la : A.length = 4 * w.length
  nd : S.Nodup
  tch : ∀ x ∈ S, TchX w x
  nx : nx = S.length + 1
  lo : O.length = S.length
  cell : ∀ j (h : j < S.length), A.getD (cellT w S[j]) 0 = j + 1 ∧ A.getD (cellT w S[j] + 1) 0 = O.getD j 0
theorem InvC.push {w : List Int} {A : List Nat} {nx : Nat} {S : List (Nat × Nat)} {O : List Nat} (h : InvC w A nx S O) {x : Nat × Nat} (hx : TchX w x) (hn : x ∉ S) :
    InvC w ((A.set (cellT w x) nx).set (cellT w x + 1) (nx + 1)) (nx + 1) (S ++ [x]) (O ++ [nx + 1]) := by
  have hl := cellT_lt hx
  have h1 := h.la
  have h2 := h.nx
  have h3 := h.lo
  refine ⟨by simpa using h1, ?_, ?_, by simp [h2], by simp [h3], fun j hj => ?_⟩
  · rw [List.nodup_append]
    refine ⟨h.nd, by simp, ?_⟩
    intro a ha b hb e
    rw [List.mem_singleton] at hb
    subst hb; subst e
    exact hn ha
  · intro y hy
    rcases List.mem_append.1 hy with hy | hy
    · exact h.tch y hy
    · rw [List.mem_singleton] at hy; subst hy; exact hx
  · rw [getD_set', getD_set', getD_set', getD_set']
    simp only [List.length_set]
    by_cases c : j < S.length
    · rw [List.getElem_append_left c]
      have hy : TchX w S[j] := h.tch _ (List.getElem_mem c)
      have hne : S[j] ≠ x := fun e => hn (e ▸ List.getElem_mem c)
      have n1 : ∀ i i', i < 2 → i' < 2 → cellT w S[j] + i ≠ cellT w x + i' := fun i i' hi hi' e => hne (cellT_inj hy hx hi hi' e).1
      have m1 := n1 0 0 (by omega) (by omega)
      have m2 := n1 0 1 (by omega) (by omega)
      have m3 := n1 1 0 (by omega) (by omega)
      have m4 := n1 1 1 (by omega) (by omega)
      rw [if_neg (fun k => m2 (by simpa using k.1)), if_neg (fun k => m1 (by simpa using k.1)), if_neg (fun k => m4 k.1), if_neg (fun k => m3 (by simpa using k.1))]
      obtain ⟨c1, c2⟩ := h.cell j c
      refine ⟨c1, c2.trans ?_⟩
      rw [List.getD_eq_getElem?_getD, List.getD_eq_getElem?_getD, List.getElem?_append_left (by omega)]
    · have hj' : j = S.length := by simp at hj; omega
      subst hj'
      rw [List.getElem_append_right (Nat.le_refl _)]
      simp only [Nat.sub_self, List.getElem_cons_zero]
      rw [if_neg (fun k => by omega), if_pos ⟨by simp, by omega⟩, if_pos ⟨by simp, by omega⟩]
      refine ⟨h2, ?_⟩
      rw [List.getD_eq_getElem?_getD, List.getElem?_append_right (by omega)]
      simp [h3]
theorem InvC.close {w : List Int} {A : List Nat} {nx : Nat} {S : List (Nat × Nat)} {O : List Nat} (h : InvC w A nx S O) {j : Nat} (hj : j < S.length) (v : Nat) :
    InvC w (A.set (cellT w S[j] + 1) v) nx S (O.set j v) := by
  have h3 := h.lo
  refine ⟨by simpa using h.la, h.nd, h.tch, h.nx, by simpa using h3, fun i hi => ?_⟩
  obtain ⟨c1, c2⟩ := h.cell i hi
  have hx : TchX w S[i] := h.tch _ (List.getElem_mem hi)
  have hy : TchX w S[j] := h.tch _ (List.getElem_mem hj)
  have hl := cellT_lt hy
  have hla := h.la
  rw [getD_set', getD_set', getD_set']
  have m1 : ¬ (cellT w S[i] = cellT w S[j] + 1) := fun e => by
    have := (cellT_inj hx hy (i := 0) (j := 1) (by omega) (by omega) (by simpa using e)).2
    omega
  rw [if_neg (fun k => m1 k.1)]
  refine ⟨c1, ?_⟩
  by_cases c : i = j
  · subst c
    rw [if_pos ⟨rfl, by omega⟩, if_pos ⟨rfl, by omega⟩]
  · have m2 : ¬ (cellT w S[i] + 1 = cellT w S[j] + 1) := fun e => c (by
      have := (cellT_inj hx hy (i := 1) (j := 1) (by omega) (by omega) e).1
      exact (List.getElem_inj (h₀ := hi) (h₁ := hj) h.nd).1 this)
    rw [if_neg (fun k => m2 k.1), if_neg (fun k => c k.1)]
    exact c2
end Go.Proofs.YtdelekkbkpldjaaDoor.Kn

/- Of each piece: no more than two more faces than crossings; so a diagram is planar just if it is so in sum: plain mathematics. -/
namespace Go.Proofs.YtdelekkbkpldjaaDoor.Kn

theorem cl_congr_lt {N : Nat} {R R' : Nat → Nat → Prop} (h : ∀ x y, x < N → y < N → (R x y ↔ R' x y)) : cl N R = cl N R' := by
  unfold cl
  refine countP_congr' fun d hd => tr_congr ?_
  rw [List.mem_range] at hd
  exact forall_congr' fun e => imp_congr_right fun he => not_congr (h e d (by omega) hd)
/- classes, and numbers each of which is one by itself -/
theorem cl_some {N : Nat} {R : Nat → Nat → Prop} (hR : Equivalence R) (p : Nat → Bool) {ll : List (List Nat)} (hp : ll.flatten.Perm ((List.range N).filter p)) (hne : ∀ l ∈ ll, l ≠ []) (hc : ∀ l ∈ ll, ∀ x ∈ l, ∀ y, y ∈ l ↔ R x y) (hs : ∀ x, p x = false → ∀ y, R x y → y = x) :
    cl N R = ll.length + ((List.range N).filter fun x => !p x).length := by
  have h1 : (((List.range N).filter fun x => !p x).map fun x => [x]).flatten = (List.range N).filter fun x => !p x := by
    generalize (List.range N).filter (fun x => !p x) = l
    induction l with
    | nil => rfl
    | cons a l ih => rw [List.map_cons, List.flatten_cons, ih]; rfl
  have := cl_lists hR (N := N) (ll := ll ++ ((List.range N).filter fun x => !p x).map fun x => [x]) (by
      rw [List.flatten_append, h1]
      exact (hp.append_right _).trans (List.filter_append_perm p _))
    (fun l hl => by
      rcases List.mem_append.1 hl with hl | hl
      · exact hne l hl
      · obtain ⟨x, _, rfl⟩ := List.mem_map.1 hl; simp)
    (fun l hl x hx y => by
      rcases List.mem_append.1 hl with hl | hl
      · exact hc l hl x hx y
      · obtain ⟨z, hz, rfl⟩ := List.mem_map.1 hl
        rw [List.mem_singleton] at hx ⊢
        subst hx
        have hp := (List.mem_filter.1 hz).2
        rw [Bool.not_eq_true'] at hp
        exact ⟨fun e => e ▸ hR.refl _, fun h => hs _ hp y h⟩)
  rw [this, List.length_append, List.length_map]
section
variable {X : List Cr} {l : List Nat}
/- a piece alone -/
def inL (l : List Nat) (x : Nat) : Bool := l.contains (x / 4)
theorem inL_iff {x : Nat} : inL l x = true ↔ x / 4 ∈ l := by unfold inL; simp
def sigL (X : List Cr) (l : List Nat) (x : Nat) : Nat := if inL l x then sig X.length x else x
def ensL (X : List Cr) (l : List Nat) : Prs := (ens X).filter fun e => inL l e.1
theorem sig_div {n x : Nat} : sig n x / 4 = x / 4 := by unfold sig; split <;> omega
theorem sigL_pm (X : List Cr) (l : List Nat) : Pm (4 * X.length) (sigL X l) := by
  have h := sig_pm X.length
  refine ⟨fun x hx => ?_, fun x hx => ?_, fun x y e => ?_⟩
  · unfold sigL; split
    · exact h.lt x hx
    · exact hx
  · unfold sigL; split
    · exact h.out x hx
    · rfl
  · have hd : ∀ x, sigL X l x / 4 = x / 4 := fun x => by unfold sigL; split; exact sig_div; rfl
    have e4 : x / 4 = y / 4 := by rw [← hd x, e, hd]
    unfold sigL inL at e
    rw [e4] at e
    split at e
    · exact h.inj x y e
    · exact e
theorem ensL_sub : ∀ e ∈ ensL X l, e ∈ ens X := fun _ he => (List.mem_filter.1 he).1
theorem Ok.ensL_good (h : Ok X) : Good (4 * X.length) (ensL X l) := fun e he => h.ens_good e (ensL_sub e he)
theorem Ok.ensL_dis (h : Ok X) : Dis (ensL X l) := by
  have := h.ens_dis
  unfold Dis at this ⊢
  exact this.sublist List.filter_sublist
theorem IsPiece.other (h : IsPiece X l) {p : Pl} (hp : isPl X p) (hX : Ok X) : p.1 ∈ l ↔ (other X p).1 ∈ l := by
  have step : ∀ {q : Pl}, isPl X q → q.1 ∈ l → (Kn.other X q).1 ∈ l := fun {q} hq hl => by
    refine ((h.con _ hl).2 _).2 (.step (.refl _) ?_)
    unfold nbc
    rw [if_pos hq.1]
    exact mem_nbs.2 ⟨q.2, hq.2, rfl⟩
  refine ⟨step hp, fun k => ?_⟩
  have := step (hX.isPl_other hp) k
  rwa [hX.other_other hp] at this
theorem pk_div {p : Pl} (hp : p.2 < 4) : pk p / 4 = p.1 := by unfold pk; omega
theorem Ok.ens_piece (hX : Ok X) (h : IsPiece X l) {e : Nat × Nat} (he : e ∈ ens X) : inL l e.1 = inL l e.2 := by
  obtain ⟨a, ha, rfl⟩ := List.mem_map.1 he
  have ha := mem_arcs.1 ha
  have p1 := hX.isPl_end (io := true) ha
  have p2 := hX.isPl_end (io := false) ha
  rw [Bool.eq_iff_iff, inL_iff, inL_iff, pk_div p1.2, pk_div p2.2, h.other p1 hX]
  have : Kn.other X (endP X true a) = endP X false a := by
    unfold Kn.other
    rw [hX.cm_end ha, hX.arc_end ha]; rfl
  rw [this]
theorem Ok.mateL (hX : Ok X) (h : IsPiece X l) {x : Nat} : mate (ensL X l) x = if inL l x then mate (ens X) x else x := by
  by_cases c : inPrs (ens X) x
  · obtain ⟨e, he, k⟩ := c
    have hl : inL l x = inL l e.1 := by
      rcases k with rfl | rfl
      · rfl
      · exact (hX.ens_piece h he).symm
    by_cases d : inL l e.1 = true
    · rw [hl, if_pos d]
      have hm : e ∈ ensL X l := List.mem_filter.2 ⟨he, d⟩
      have m1 := mate_pair hX.ens_dis he
      have m2 := mate_pair hX.ensL_dis hm
      rcases k with rfl | rfl
      · rw [m1.1, m2.1]
      · rw [m1.2, m2.2]
    · rw [hl, if_neg d]
      refine mate_out fun ⟨e', he', k'⟩ => ?_
      have hd := (List.mem_filter.1 he').2
      have hl' : inL l x = inL l e'.1 := by
        rcases k' with rfl | rfl
        · rfl
        · exact (hX.ens_piece h (ensL_sub _ he')).symm
      rw [← hl', hl] at hd
      exact d hd
  · rw [mate_out c, ite_self]
    exact mate_out fun ⟨e, he, k⟩ => c ⟨e, ensL_sub e he, k⟩
theorem Ok.phiL (hX : Ok X) (h : IsPiece X l) (x : Nat) : phi (sigL X l) (ensL X l) x = if inL l x then fac X x else x := by
  unfold phi
  rw [hX.mateL h]
  have hi : inL l (sigL X l x) = inL l x := by
    unfold inL sigL
    split
    · rw [sig_div]
    · rfl
  rw [hi]
  unfold sigL
  by_cases c : inL l x = true
  · rw [if_pos c, if_pos c, if_pos c]; rfl
  · rw [if_neg c, if_neg c, if_neg c]
/- orbits of what is as it was but for some -/
theorem orb_if {f g : Nat → Nat} {p : Nat → Bool} (hg : ∀ x, g x = if p x then f x else x) (hp : ∀ x, p x = true → p (f x) = true) {x : Nat} (hx : p x = true) {y : Nat} : Orb g x y ↔ Orb f x y := by
  have key : ∀ n, it g n x = it f n x ∧ p (it f n x) = true := by
    intro n
    induction n with
    | zero => exact ⟨rfl, hx⟩
    | succ n ih =>
      refine ⟨?_, hp _ ih.2⟩
      rw [it, ih.1, hg, if_pos ih.2]; rfl
  constructor
  · rintro ⟨n, rfl⟩; exact ⟨n, (key n).1.symm⟩
  · rintro ⟨n, rfl⟩; exact ⟨n, (key n).1⟩
theorem orb_not {f g : Nat → Nat} {p : Nat → Bool} (hg : ∀ x, g x = if p x then f x else x) {x : Nat} (hx : p x = false) {y : Nat} (h : Orb g x y) : y = x :=
  h.ind (P := fun y => y = x) (fun z hz => by rw [hz, hg, hx]; rfl) rfl
theorem blks_perm (h : IsPiece X l) : (l.flatMap blk).Perm ((List.range (4 * X.length)).filter (inL l)) := by
  have hn : (l.flatMap blk).Nodup := by
    rw [List.Nodup, List.pairwise_flatMap]
    refine ⟨fun c _ => by unfold blk; simp, h.nodup.imp fun {a b} hne x hx y hy e => ?_⟩
    subst e
    exact hne ((mem_blk.1 hx).symm.trans (mem_blk.1 hy))
  refine (List.perm_ext_iff_of_nodup hn (List.nodup_range.sublist List.filter_sublist)).2 fun x => ?_
  rw [mem_blks, List.mem_filter, inL_iff, List.mem_range]
  exact ⟨fun k => ⟨by have := (h.con _ k).1; omega, k⟩, fun k => k.2⟩
/- the faces at a piece -/
def facesIn (X : List Cr) (l : List Nat) : List (List Dt) := (facesL X).filter fun f => l.contains (head X (f.headD (0, false))).1
theorem Ok.fac_piece (hX : Ok X) (h : IsPiece X l) {x : Nat} (hx : inL l x = true) : inL l (fac X x) = true := by
  rw [inL_iff] at hx ⊢
  have hl := (h.con _ hx).1
  have e : x = pk (pl x) := by unfold pk pl; simp only; omega
  have hp : isPl X (pl x) := isPl_pl (by omega)
  rw [e, hX.fac_pk hp, pk_div (hX.isPl_other (isPl_turn hp 3)).2]
  exact (h.other (isPl_turn hp 3) hX).1 (by show (pl x).1 ∈ l; unfold pl; exact hx)
theorem flatten_filter {α : Type} (q : List α → Bool) (p : α → Bool) : ∀ L : List (List α), (∀ r ∈ L, ∀ x ∈ r, p x = q r) → (L.filter q).flatten = L.flatten.filter p
  | [], _ => rfl
  | r :: L, h => by
    have ih := flatten_filter q p L fun r hr => h r (by simp [hr])
    rw [List.filter_cons, List.flatten_cons, List.filter_append]
    by_cases c : q r = true
    · have e : r.filter p = r := List.filter_eq_self.2 fun x hx => by rw [h r (by simp) x hx, c]
      rw [if_pos c, List.flatten_cons, ih, e]
    · have e : r.filter p = [] := List.filter_eq_nil_iff.2 fun x hx => by rw [h r (by simp) x hx]; exact c
      rw [if_neg c, ih, e]; rfl
/- Euler, of a piece -/
theorem Ok.euler_piece (hX : Ok X) (h : IsPiece X l) : (facesIn X l).length ≤ l.length + 2 := by
  have hE := (Kn.euler (sigL_pm X l) (hX.ensL_good (l := l))).1
  obtain ⟨K, hK⟩ : ∃ K, K = ((List.range (4 * X.length)).filter fun x => !inL l x).length := ⟨_, rfl⟩
  have hperm := blks_perm h
  have hlen : (l.flatMap blk).length = 4 * l.length := by
    have : ∀ l : List Nat, (l.flatMap blk).length = 4 * l.length := fun l => by
      induction l with
      | nil => rfl
      | cons a l ih => rw [List.flatMap_cons, List.length_append, ih, List.length_cons]; unfold blk; simp; omega
    exact this l
  -- crossings
  have hV : cl (4 * X.length) (Orb (sigL X l)) = l.length + K := by
    rw [hK]
    have := cl_some (sigL_pm X l).equiv (inL l) (ll := l.map blk) (by rw [← List.flatMap_def]; exact hperm) (fun b hb => by
        obtain ⟨c, _, rfl⟩ := List.mem_map.1 hb; unfold blk; simp)
      (fun b hb x hx y => by
        obtain ⟨c, hc, rfl⟩ := List.mem_map.1 hb
        have hcl := (h.con c hc).1
        rw [mem_blk] at hx ⊢
        have hin : inL l x = true := inL_iff.2 (by rw [hx]; exact hc)
        rw [orb_if (f := sig X.length) (g := sigL X l) (p := inL l) (fun x => rfl) (fun x hx => by unfold inL at hx ⊢; rwa [sig_div]) hin, sig_orb (by omega)]
        omega)
      (fun x hx y hy => orb_not (f := sig X.length) (g := sigL X l) (p := inL l) (fun x => rfl) hx hy)
    rw [this, List.length_map]
  -- faces
  have hF : cl (4 * X.length) (Orb (phi (sigL X l) (ensL X l))) = (facesIn X l).length + K := by
    rw [hK]
    have hal : ∀ f ∈ facesL X, ∀ d ∈ f, inL l (pk (head X d)) = l.contains (head X (f.headD (0, false))).1 := fun f hf d hd => by
      obtain ⟨d0, r, rfl⟩ : ∃ d r, f = d :: r := by
        cases f with
        | nil => exact absurd rfl (faces_ne X _ hf)
        | cons d r => exact ⟨d, r, rfl⟩
      have key : ∀ {d e : Dt}, d ∈ d0 :: r → e ∈ d0 :: r → inL l (pk (head X d)) = true → inL l (pk (head X e)) = true := fun {d e} hd he k => by
        have := (hX.faces_is _ (List.mem_map.2 ⟨_, hf, rfl⟩) (pk (head X d)) (List.mem_map.2 ⟨d, hd, rfl⟩) (pk (head X e))).1 (List.mem_map.2 ⟨e, he, rfl⟩)
        exact this.ind (P := fun y => inL l y = true) (fun z hz => hX.fac_piece h hz) k
      have ha : Kn.isArc X d0.1 := mem_darts.1 ((faces_perm hX).mem_iff.1 (List.mem_flatten.2 ⟨_, hf, by simp⟩))
      have e0 : inL l (pk (head X d0)) = l.contains (head X d0).1 := by unfold inL; rw [pk_div (hX.isPl_head ha).2]
      show _ = l.contains (head X d0).1
      rw [← e0, Bool.eq_iff_iff]
      exact ⟨key hd (by simp), key (by simp) hd⟩
    have := cl_some (phi_pm (sigL_pm X l) (hX.ensL_good (l := l))).equiv (inL l) (ll := (facesIn X l).map (List.map fun d => pk (head X d))) (by
        have e : ((facesIn X l).map (List.map fun d => pk (head X d))).flatten = ((facesL X).map (List.map fun d => pk (head X d))).flatten.filter (inL l) := by
          rw [← List.map_flatten, ← List.map_flatten, List.filter_map]
          congr 1
          exact flatten_filter _ _ _ fun f hf d hd => hal f hf d hd
        rw [e]
        exact hX.faces_flat.filter _)
      (fun b hb => by
        obtain ⟨f, hf, rfl⟩ := List.mem_map.1 hb
        have := faces_ne X f (List.mem_filter.1 hf).1
        simpa using this)
      (fun b hb x hx y => by
        obtain ⟨f, hf, rfl⟩ := List.mem_map.1 hb
        obtain ⟨hf1, hf2⟩ := List.mem_filter.1 hf
        rw [hX.faces_is _ (List.mem_map.2 ⟨f, hf1, rfl⟩) x hx]
        obtain ⟨d, hd, rfl⟩ := List.mem_map.1 hx
        exact (orb_if (hX.phiL h) (fun x hx => hX.fac_piece h hx) (by rw [hal f hf1 d hd]; exact hf2)).symm)
      (fun x hx y hy => orb_not (hX.phiL h) hx hy)
    rw [this, List.length_map]
  -- the piece
  have hC : cl (4 * X.length) (com (sigL X l) (ensL X l)) = 1 + K := by
    rw [hK]
    have heq := com_equiv (sigL_pm X l) (ensL X l)
    have := cl_some heq (inL l) (ll := [l.flatMap blk]) (by simpa using hperm)
      (fun b hb => by
        rw [List.mem_singleton] at hb; subst hb
        obtain ⟨c, hc⟩ := List.exists_mem_of_ne_nil _ h.ne
        have : c * 4 ∈ l.flatMap blk := mem_blks.2 (by rw [show c * 4 / 4 = c by omega]; exact hc)
        exact List.ne_nil_of_mem this)
      (fun b hb x hx y => by
        rw [List.mem_singleton] at hb; subst hb
        rw [mem_blks] at hx ⊢
        constructor
        · intro hy
          -- connected within the piece
          have hxl : x < 4 * X.length := by have := (h.con _ hx).1; omega
          have hcon : pie X x y := (hX.pie_con hxl).2 (((h.con _ hx).2 _).1 hy)
          have := com_least (R := fun x y => (x / 4 ∈ l ↔ y / 4 ∈ l) ∧ (x / 4 ∈ l → com (sigL X l) (ensL X l) x y)) (σ := sig X.length) (es := ens X)
            ⟨fun x => ⟨Iff.rfl, fun _ => heq.refl x⟩, fun {x y} k => ⟨k.1.symm, fun m => heq.symm (k.2 (k.1.2 m))⟩, fun {x y z} k m => ⟨k.1.trans m.1, fun a => heq.trans (k.2 a) (m.2 (k.1.1 a))⟩⟩
            (fun x => ⟨by rw [sig_div], fun m => com_sub (by
              have : sigL X l x = sig X.length x := by unfold sigL; rw [if_pos (inL_iff.2 m)]
              rw [← this]; exact Orb.one _ x)⟩)
            (fun e he => ⟨by rw [← inL_iff, ← inL_iff, hX.ens_piece h he], fun m => com_pair (sigL_pm X l) (List.mem_filter.2 ⟨he, inL_iff.2 m⟩)⟩) hcon
          exact this.2 hx
        · intro k
          have := com_least (R := fun x y => x / 4 ∈ l ↔ y / 4 ∈ l) (σ := sigL X l) (es := ensL X l) ⟨fun x => Iff.rfl, fun k => k.symm, fun k m => k.trans m⟩
            (fun x => by unfold sigL; split; rw [sig_div]; rfl) (fun e he => by rw [← inL_iff, ← inL_iff, hX.ens_piece h (ensL_sub e he)]) k
          exact this.1 hx)
      (fun x hx y hy => by
        have := com_least (R := fun x y => x = y ∨ (inL l x = true ∧ inL l y = true)) (σ := sigL X l) (es := ensL X l)
          ⟨fun x => .inl rfl, fun {x y} k => by rcases k with rfl | ⟨a, b⟩; exact .inl rfl; exact .inr ⟨b, a⟩, fun {x y z} k m => by
            rcases k with rfl | ⟨a, b⟩
            · exact m
            · rcases m with rfl | ⟨c, d⟩
              · exact .inr ⟨a, b⟩
              · exact .inr ⟨a, d⟩⟩
          (fun x => by
            by_cases c : inL l x = true
            · refine .inr ⟨c, ?_⟩
              unfold sigL; rw [if_pos c]; unfold inL at c ⊢; rwa [sig_div]
            · left; unfold sigL; rw [if_neg c])
          (fun e he => .inr ⟨(List.mem_filter.1 he).2, by rw [← hX.ens_piece h (ensL_sub e he)]; exact (List.mem_filter.1 he).2⟩) hy
        rcases this with e | ⟨a, _⟩
        · exact e.symm
        · rw [hx] at a; cases a)
    rw [this]; simp
  -- arcs
  have hA : 2 * (ensL X l).length = 4 * l.length := by
    rw [← hlen]
    have e : ∀ es : Prs, (es.flatMap fun e => [e.1, e.2]).length = 2 * es.length := fun es => by
      induction es with
      | nil => rfl
      | cons e es ih => rw [List.flatMap_cons, List.length_append, ih, List.length_cons]; simp; omega
    rw [← e]
    refine List.Perm.length_eq ((List.perm_ext_iff_of_nodup ?_ (hperm.nodup_iff.2 (List.nodup_range.sublist List.filter_sublist))).2 fun x => ?_)
    · rw [List.Nodup, List.pairwise_flatMap]
      refine ⟨fun e he => by
        have := (hX.ensL_good e he).2.2
        simp [this], (hX.ensL_dis (l := l)).imp fun {a b} k x hx y hy => ?_⟩
      simp only [List.mem_cons, List.not_mem_nil, or_false] at hx hy
      rcases hx with rfl | rfl <;> rcases hy with rfl | rfl
      · exact k.1
      · exact k.2.1
      · exact k.2.2.1
      · exact k.2.2.2
    · rw [mem_blks, List.mem_flatMap]
      constructor
      · rintro ⟨e, he, hx⟩
        have h1 := (List.mem_filter.1 he).2
        simp only [List.mem_cons, List.not_mem_nil, or_false] at hx
        rcases hx with rfl | rfl
        · exact inL_iff.1 h1
        · rw [hX.ens_piece h (ensL_sub e he)] at h1
          exact inL_iff.1 h1
      · intro hx
        have hxl := (h.con _ hx).1
        have e0 : x = pk (pl x) := by unfold pk pl; simp only; omega
        obtain ⟨e, he, k⟩ := hX.mem_ens (isPl_pl (X := X) (j := x) (by omega))
        rw [← e0] at k
        have hk : x = e.1 ∨ x = e.2 := k.elim (fun k => .inl k.1) fun k => .inr k.1
        refine ⟨e, List.mem_filter.2 ⟨he, ?_⟩, by simpa using hk⟩
        rcases hk with hk | hk
        · rw [← hk]; exact inL_iff.2 hx
        · rw [hX.ens_piece h he, ← hk]; exact inL_iff.2 hx
  rw [hV, hF, hC] at hE
  omega
theorem Ok.facesAt_in (hX : Ok X) {i : Nat} (hi : i < (piecesL X).length) : facesAt X i = (facesIn X (piecesL X)[i]).length := by
  unfold facesAt facesIn
  rw [List.countP_eq_length_filter]
  congr 1
  refine List.filter_congr fun f hf => ?_
  have hc := hX.face_at hf
  obtain ⟨c, hcd⟩ : ∃ c, c = (head X (f.headD (0, false))).1 := ⟨_, rfl⟩
  rw [← hcd] at hc ⊢
  rw [Bool.eq_iff_iff, decide_eq_true_eq, List.contains_iff_mem]
  have hlt := hX.pieceAt_lt hc
  have hmem : c ∈ (piecesL X)[pieceAt X c] := by
    have hlt' : (piecesL X).findIdx (fun l => l.contains c) < (piecesL X).length := hlt
    have : ((piecesL X)[pieceAt X c]).contains c = true := List.findIdx_getElem (xs := piecesL X) (p := fun l => l.contains c) (w := hlt')
    exact List.contains_iff_mem.1 this
  constructor
  · intro e; subst e; exact hmem
  · intro k
    have hnd : (piecesL X).flatten.Nodup := hX.pieces_perm.nodup_iff.2 List.nodup_range
    have hp := List.pairwise_iff_getElem.1 (List.pairwise_flatten.1 hnd).2
    rcases Nat.lt_trichotomy (pieceAt X c) i with d | d | d
    · exact absurd rfl (hp _ _ hlt hi d c hmem c k)
    · exact d
    · exact absurd rfl (hp _ _ hi hlt d c k c hmem)
theorem sum_le_eq {f g : Nat → Nat} : ∀ {m : Nat}, (∀ i, i < m → f i ≤ g i) → ((List.range m).map f).sum = ((List.range m).map g).sum → ∀ i, i < m → f i = g i
  | 0, _, _, i, hi => by omega
  | m + 1, hle, hs, i, hi => by
    have hle' : ∀ k, k ≤ m → ((List.range k).map f).sum ≤ ((List.range k).map g).sum := fun k => by
      induction k with
      | zero => intro _; exact Nat.le_refl _
      | succ k ih =>
        intro hk
        have := ih (by omega)
        have := hle k (by omega)
        rw [List.range_succ, List.map_append, List.map_append, List.sum_append, List.sum_append]
        simp only [List.map_cons, List.map_nil, List.sum_cons, List.sum_nil]
        omega
    rw [List.range_succ, List.map_append, List.map_append, List.sum_append, List.sum_append] at hs
    simp only [List.map_cons, List.map_nil, List.sum_cons, List.sum_nil] at hs
    have h1 := hle' m (Nat.le_refl _)
    have h2 := hle m (by omega)
    by_cases c : i = m
    · subst c; omega
    · exact sum_le_eq (m := m) (fun i hi => hle i (by omega)) (by omega) i (by omega)
theorem Ok.planar_iff (hX : Ok X) : planarB X = true ↔ (facesL X).length = X.length + 2 * (piecesL X).length := by
  refine ⟨hX.planar_count, fun h => ?_⟩
  rw [← hX.faces_sum, ← hX.lens_sum] at h
  refine List.all_eq_true.2 fun i hi => ?_
  rw [List.mem_range] at hi
  rw [decide_eq_true_eq]
  refine sum_le_eq (g := fun i => ((piecesL X).getD i []).length + 2) (fun i hi => ?_) h i hi
  have e : (piecesL X).getD i [] = (piecesL X)[i] := by rw [List.getD_eq_getElem?_getD, List.getElem?_eq_getElem hi]; rfl
  show _ ≤ ((piecesL X).getD i []).length + 2
  rw [hX.facesAt_in hi, e]
  exact hX.euler_piece (hX.pieces_is _ (List.getElem_mem hi))
end
end Go.Proofs.YtdelekkbkpldjaaDoor.Kn

/- Where Euler's formula is an equality it stays one: an edge less, a vertex split, an edge drawn together, a vertex of two ends left out: plain mathematics. -/
namespace Go.Proofs.YtdelekkbkpldjaaDoor.Kn

def Flat (N : Nat) (σ : Nat → Nat) (es : Prs) : Prop := cl N (Orb (phi σ es)) + cl N (Orb σ) = es.length + 2 * cl N (com σ es)
section
variable {N : Nat} {σ : Nat → Nat}
theorem swp_inj1 {a b x y : Nat} (h : swp a b x = swp a b y) : x = y := by
  have := congrArg (swp a b) h
  rwa [swp_swp, swp_swp] at this
theorem mate_inj : ∀ {es : Prs} {x y : Nat}, mate es x = mate es y → x = y
  | [], _, _, h => h
  | _ :: _, _, _, h => mate_inj (swp_inj1 h)
theorem inj_swp {f : Nat → Nat} (hf : ∀ {x y}, f x = f y → x = y) (a b z : Nat) : f (swp a b z) = swp (f a) (f b) (f z) := by
  by_cases h : z = a
  · subst h; rw [swp_a, swp_a]
  · by_cases k : z = b
    · subst k; rw [swp_b, swp_b]
    · rw [swp_ne h k, swp_ne (fun e => h (hf e)) (fun e => k (hf e))]
theorem mate_swp (es : Prs) (a b z : Nat) : mate es (swp a b z) = swp (mate es a) (mate es b) (mate es z) := inj_swp mate_inj a b z
theorem com_mate (h : Pm N σ) (es : Prs) (x : Nat) : com σ es x (mate es x) := by
  have key : ∀ (l : Prs), (∀ e ∈ l, e ∈ es) → com σ es x (mate l x) := by
    intro l
    induction l with
    | nil => intro _; exact (com_equiv h es).refl x
    | cons e l ih =>
      intro hl
      have i := ih fun d hd => hl d (by simp [hd])
      have p := com_pair h (hl e (by simp))
      show com σ es x (swp e.1 e.2 (mate l x))
      by_cases c : mate l x = e.1
      · rw [c, swp_a]; rw [c] at i; exact (com_equiv h es).trans i p
      · by_cases d : mate l x = e.2
        · rw [d, swp_b]; rw [d] at i; exact (com_equiv h es).trans i ((com_equiv h es).symm p)
        · rw [swp_ne c d]; exact i
  exact key es fun _ he => he
theorem Good.mate_lt : ∀ {es : Prs}, Good N es → ∀ {x : Nat}, x < N → mate es x < N
  | [], _, _, hx => hx
  | e :: es, h, x, hx => by
    have i := h.tail.mate_lt hx
    obtain ⟨h1, h2, _⟩ := h e (by simp)
    show swp e.1 e.2 (mate es x) < N
    unfold swp; split
    · exact h2
    · split
      · exact h1
      · exact i

theorem Flat.drop (h : Pm N σ) {e : Nat × Nat} {es : Prs} (hg : Good N (e :: es)) (hf : Flat N σ (e :: es)) : Flat N σ es := by
  unfold Flat at hf ⊢
  obtain ⟨h1, h2, h3⟩ := hg e (by simp)
  have hE := (euler h hg.tail).1
  have hp := phi_pm h hg.tail
  rw [phi_cons, List.length_cons] at hf
  have hf : cl N (Orb fun x => swp e.1 e.2 (phi σ es x)) + cl N (Orb σ) = es.length + 1 + 2 * cl N (mrg (com σ es) e.1 e.2) := hf
  by_cases d : Orb (phi σ es) e.1 e.2
  · have := cl_part hp h1 h2 h3 d
    rw [cl_congr (mrg_same (com_equiv h es) (orb_com h hg.tail d))] at hf
    omega
  · have := cl_join hp h1 h2 d
    by_cases c : com σ es e.1 e.2
    · rw [cl_congr (mrg_same (com_equiv h es) c)] at hf; omega
    · have := cl_mrg (com_equiv h es) h1 h2 c
      omega
/- what is joined by a split vertex -/
theorem com_split (h : Pm N σ) {a b : Nat} (ha : a < N) (hb : b < N) (es : Prs) (k : Orb σ a b) (x y : Nat) : com σ es x y ↔ mrg (com (fun x => swp a b (σ x)) es) a b x y := by
  have h' := h.swp ha hb
  have hR := mrg_equiv (com_equiv h' es) a b
  have hab : mrg (com (fun x => swp a b (σ x)) es) a b a b := .inr (.inl ⟨(com_equiv h' es).refl _, (com_equiv h' es).refl _⟩)
  constructor
  · intro c
    refine com_least hR (fun z => ?_) (fun e he => .inl (com_pair h' he)) c
    have o : mrg (com (fun x => swp a b (σ x)) es) a b z (swp a b (σ z)) := .inl (com_sub (Orb.one (fun x => swp a b (σ x)) z))
    by_cases c : σ z = a
    · rw [c, swp_a] at o; rw [c]; exact hR.trans o (hR.symm hab)
    · by_cases d : σ z = b
      · rw [d, swp_b] at o; rw [d]; exact hR.trans o hab
      · rwa [swp_ne c d] at o
  · have hE := com_equiv h es
    have low : ∀ {x y}, com (fun x => swp a b (σ x)) es x y → com σ es x y := fun {x y} c => by
      refine com_least hE (fun z => ?_) (fun e he => com_pair h he) c
      have o : com σ es z (σ z) := com_sub (Orb.one σ z)
      have ab : com σ es a b := com_sub k
      show com σ es z (swp a b (σ z))
      by_cases c : σ z = a
      · rw [c, swp_a]; rw [c] at o; exact hE.trans o ab
      · by_cases d : σ z = b
        · rw [d, swp_b]; rw [d] at o; exact hE.trans o (hE.symm ab)
        · rwa [swp_ne c d]
    rintro (c | ⟨c, d⟩ | ⟨c, d⟩)
    · exact low c
    · exact hE.trans (low c) (hE.trans (com_sub k) (low d))
    · exact hE.trans (low c) (hE.trans (hE.symm (com_sub k)) (low d))
theorem Flat.split (h : Pm N σ) {es : Prs} (hg : Good N es) {a b : Nat} (ha : a < N) (hb : b < N) (hne : a ≠ b) (k : Orb σ a b) (hf : Flat N σ es) : Flat N (fun x => swp a b (σ x)) es := by
  unfold Flat at hf ⊢
  have h' := h.swp ha hb
  have hE := (euler h' hg).1
  have hp := phi_pm h hg
  have e : phi (fun x => swp a b (σ x)) es = fun x => swp (mate es a) (mate es b) (phi σ es x) := funext fun x => mate_swp es a b (σ x)
  have hc := cl_congr (N := N) (com_split h ha hb es k)
  have hV := cl_part h ha hb hne k
  have hma := hg.mate_lt ha
  have hmb := hg.mate_lt hb
  have hmn : mate es a ≠ mate es b := fun c => hne (mate_inj c)
  rw [e] at hE ⊢
  by_cases d : Orb (phi σ es) (mate es a) (mate es b)
  · have hF := cl_part hp hma hmb hmn d
    by_cases c : com (fun x => swp a b (σ x)) es a b
    · rw [cl_congr (mrg_same (com_equiv h' es) c)] at hc; omega
    · have := cl_mrg (com_equiv h' es) ha hb c
      omega
  · have hF := cl_join hp hma hmb d
    have j := orb_join (a := mate es a) (b := mate es b) hp d
    rw [← e] at j
    have j := orb_com h' hg j
    have hE' := com_equiv h' es
    have c : com (fun x => swp a b (σ x)) es a b := hE'.trans (com_mate h' es a) (hE'.trans j (hE'.symm (com_mate h' es b)))
    rw [cl_congr (mrg_same hE' c)] at hc
    omega
theorem Flat.congr (h : Pm N σ) {es es' : Prs} (hm : ∀ x, mate es x = mate es' x) (hl : es.length = es'.length) (h1 : ∀ e ∈ es, com σ es' e.1 e.2) (h2 : ∀ e ∈ es', com σ es e.1 e.2) (hf : Flat N σ es) : Flat N σ es' := by
  unfold Flat at hf ⊢
  have e : phi σ es = phi σ es' := funext fun x => hm (σ x)
  have c : ∀ x y, com σ es x y ↔ com σ es' x y := fun x y =>
    ⟨fun k => com_least (com_equiv h es') (fun z => com_sub (Orb.one σ z)) h1 k, fun k => com_least (com_equiv h es) (fun z => com_sub (Orb.one σ z)) h2 k⟩
  rw [← e, ← cl_congr c, ← hl]
  exact hf
end
theorem Dis.perm {es es' : Prs} (h : Dis es) (p : es.Perm es') : Dis es' := by
  refine (p.pairwise_iff ?_).1 h
  rintro x y ⟨h1, h2, h3, h4⟩
  exact ⟨fun e => h1 e.symm, fun e => h3 e.symm, fun e => h2 e.symm, fun e => h4 e.symm⟩
theorem mate_perm {es es' : Prs} (h : Dis es) (p : es.Perm es') (x : Nat) : mate es x = mate es' x := by
  by_cases c : inPrs es x
  · obtain ⟨e, he, k | k⟩ := c
    · rw [k, (mate_pair h he).1, (mate_pair (h.perm p) (p.mem_iff.1 he)).1]
    · rw [k, (mate_pair h he).2, (mate_pair (h.perm p) (p.mem_iff.1 he)).2]
  · rw [mate_out c, mate_out fun ⟨e, he, k⟩ => c ⟨e, p.mem_iff.2 he, k⟩]
section
variable {N : Nat} {σ : Nat → Nat}
theorem Good.perm {es es' : Prs} (h : Good N es) (p : es.Perm es') : Good N es' := fun e he => h e (p.mem_iff.2 he)
theorem Flat.perm (h : Pm N σ) {es es' : Prs} (hd : Dis es) (p : es.Perm es') (hf : Flat N σ es) : Flat N σ es' :=
  hf.congr h (mate_perm hd p) p.length_eq (fun _ he => com_pair h (p.mem_iff.1 he)) fun _ he => com_pair h (p.mem_iff.2 he)
/- the ends of a pair turned -/
theorem com_flip (h : Pm N σ) {a b : Nat} (es : Prs) : ∀ e ∈ (a, b) :: es, com σ ((b, a) :: es) e.1 e.2 := fun e he => by
  rcases List.mem_cons.1 he with rfl | he
  · exact (com_equiv h _).symm (com_pair h (e := (b, a)) (List.mem_cons_self ..))
  · exact com_pair h (List.mem_cons_of_mem _ he)
theorem Flat.flip (h : Pm N σ) {a b : Nat} {es : Prs} (hf : Flat N σ ((a, b) :: es)) : Flat N σ ((b, a) :: es) :=
  Flat.congr (es := (a, b) :: es) (es' := (b, a) :: es) h (fun x => swp_comm a b (mate es x)) rfl (com_flip h es) (com_flip h es) hf
theorem Flat.contract (h : Pm N σ) {a b : Nat} {es : Prs} (hg : Good N ((a, b) :: es)) (hd : Dis ((a, b) :: es)) (k : ¬ Orb σ a b) (hf : Flat N σ ((a, b) :: es)) : Flat N (fun x => swp a b (σ x)) es := by
  unfold Flat at hf ⊢
  obtain ⟨ha, hb, hne⟩ : a < N ∧ b < N ∧ a ≠ b := hg (a, b) (List.mem_cons_self ..)
  obtain ⟨o1, o2⟩ : ¬ inPrs es a ∧ ¬ inPrs es b := hd.out
  have h' := h.swp ha hb
  have e : phi (fun x => swp a b (σ x)) es = phi σ ((a, b) :: es) := funext fun x => by
    show mate es (swp a b (σ x)) = swp a b (mate es (σ x))
    rw [mate_swp, mate_out o1, mate_out o2]
  have hV := cl_join h ha hb k
  have j := orb_join (a := a) (b := b) h k
  have c : ∀ x y, com (fun x => swp a b (σ x)) es x y ↔ com σ ((a, b) :: es) x y := fun x y => by
    have := com_split h' ha hb es j x y
    rw [swp_twice σ a b] at this
    exact this
  rw [e, cl_congr c]
  rw [List.length_cons] at hf
  omega
/- an end moved on to the next place of its vertex, if nothing is tied there -/
theorem com_move (h : Pm N σ) {p q v : Nat} (hp : p < N) (hv : v < N) {es : Prs} (k : Orb σ v p) (x y : Nat) :
    com σ ((v, q) :: es) x y ↔ mrg (com (fun x => swp v p (σ x)) ((p, q) :: es)) v p x y := by
  have h' := h.swp hv hp
  have hR := mrg_equiv (com_equiv h' ((p, q) :: es)) v p
  have hvp : mrg (com (fun x => swp v p (σ x)) ((p, q) :: es)) v p v p := .inr (.inl ⟨(com_equiv h' _).refl _, (com_equiv h' _).refl _⟩)
  have hE := com_equiv h ((v, q) :: es)
  have ab : com σ ((v, q) :: es) v p := com_sub k
  constructor
  · intro c
    refine com_least hR (fun z => ?_) (fun e he => ?_) c
    · have o : mrg (com (fun x => swp v p (σ x)) ((p, q) :: es)) v p z (swp v p (σ z)) := .inl (com_sub (Orb.one (fun x => swp v p (σ x)) z))
      by_cases c : σ z = v
      · rw [c, swp_a] at o; rw [c]; exact hR.trans o (hR.symm hvp)
      · by_cases d : σ z = p
        · rw [d, swp_b] at o; rw [d]; exact hR.trans o hvp
        · rwa [swp_ne c d] at o
    · rcases List.mem_cons.1 he with rfl | he
      · exact hR.trans hvp (.inl (com_pair h' (e := (p, q)) (List.mem_cons_self ..)))
      · exact .inl (com_pair h' (List.mem_cons_of_mem _ he))
  · have low : ∀ {x y}, com (fun x => swp v p (σ x)) ((p, q) :: es) x y → com σ ((v, q) :: es) x y := fun {x y} c => by
      refine com_least hE (fun z => ?_) (fun e he => ?_) c
      · have o : com σ ((v, q) :: es) z (σ z) := com_sub (Orb.one σ z)
        show com σ ((v, q) :: es) z (swp v p (σ z))
        by_cases c : σ z = v
        · rw [c, swp_a]; rw [c] at o; exact hE.trans o ab
        · by_cases d : σ z = p
          · rw [d, swp_b]; rw [d] at o; exact hE.trans o (hE.symm ab)
          · rwa [swp_ne c d]
      · rcases List.mem_cons.1 he with rfl | he
        · exact hE.trans (hE.symm ab) (com_pair h (e := (v, q)) (List.mem_cons_self ..))
        · exact com_pair h (List.mem_cons_of_mem _ he)
    rintro (c | ⟨c, d⟩ | ⟨c, d⟩)
    · exact low c
    · exact hE.trans (low c) (hE.trans ab (low d))
    · exact hE.trans (low c) (hE.trans (hE.symm ab) (low d))
theorem Flat.move (h : Pm N σ) {p q v : Nat} {es : Prs} (hg : Good N ((v, q) :: es)) (hd : Dis ((v, q) :: es)) (hp : p < N) (hpv : p ≠ v) (hpq : p ≠ q) (ho : ¬ inPrs es p) (k : σ v = p) (hf : Flat N σ ((v, q) :: es)) : Flat N (fun x => swp v p (σ x)) ((p, q) :: es) := by
  obtain ⟨hv, hq, hvq⟩ : v < N ∧ q < N ∧ v ≠ q := hg (v, q) (List.mem_cons_self ..)
  obtain ⟨o1, o2⟩ : ¬ inPrs es v ∧ ¬ inPrs es q := hd.out
  have h' := h.swp hv hp
  have hg' : Good N ((p, q) :: es) := fun e he => by
    rcases List.mem_cons.1 he with rfl | he
    · exact ⟨hp, hq, hpq⟩
    · exact hg.tail e he
  have hE := (euler h' hg').1
  have ko : Orb σ v p := ⟨1, k⟩
  have hV := cl_part h hv hp (fun e => hpv e.symm) ko
  have hm : ∀ z, swp p q (swp v p z) = swp v p (swp v q z) := fun z => by
    have n1 : ¬ v = p := fun e => hpv e.symm
    have n2 : ¬ q = p := fun e => hpq e.symm
    have n3 : ¬ q = v := fun e => hvq e.symm
    by_cases c1 : z = v
    · subst c1; rw [swp_a, swp_a, swp_a, swp_ne n3 n2]
    · by_cases c2 : z = p
      · subst c2; rw [swp_b, swp_ne n1 hvq, swp_ne c1 hpq, swp_b]
      · by_cases c3 : z = q
        · subst c3; rw [swp_ne c1 c2, swp_b, swp_b, swp_a]
        · rw [swp_ne c1 c2, swp_ne c2 c3, swp_ne c1 c3, swp_ne c1 c2]
  have e : phi (fun x => swp v p (σ x)) ((p, q) :: es) = fun x => swp v p (phi σ ((v, q) :: es) x) := funext fun x => by
    show swp p q (mate es (swp v p (σ x))) = swp v p (swp v q (mate es (σ x)))
    rw [mate_swp, mate_out o1, mate_out ho]
    exact hm _
  have kf : Orb (phi σ ((v, q) :: es)) v p := ⟨1, by
    show swp v q (mate es (σ v)) = p
    rw [k, mate_out ho, swp_ne hpv hpq]⟩
  have hF := cl_part (phi_pm h hg) hv hp (fun e => hpv e.symm) kf
  have hc := cl_congr (N := N) (com_move (q := q) h hp hv (es := es) ko)
  unfold Flat at hf ⊢
  rw [e] at hE ⊢
  rw [List.length_cons] at hE hf ⊢
  by_cases c : com (fun x => swp v p (σ x)) ((p, q) :: es) v p
  · rw [cl_congr (mrg_same (com_equiv h' _) c)] at hc; omega
  · have := cl_mrg (com_equiv h' _) hv hp c
    omega
end
end Go.Proofs.YtdelekkbkpldjaaDoor.Kn

/- A vertex of two ends left out: plain mathematics. -/
namespace Go.Proofs.YtdelekkbkpldjaaDoor.Kn
section
variable {N : Nat} {σ : Nat → Nat}
theorem inPrs_iff {es : Prs} (hg : Good N es) (hd : Dis es) (x : Nat) : inPrs es x ↔ mate es x ≠ x := by
  constructor
  · rintro ⟨e, he, k | k⟩
    · rw [k, (mate_pair hd he).1]; exact fun c => (hg e he).2.2 c.symm
    · rw [k, (mate_pair hd he).2]; exact (hg e he).2.2
  · intro k
    exact Classical.byContradiction fun c => k (mate_out c)
theorem mate_mate {es : Prs} (hd : Dis es) (x : Nat) : mate es (mate es x) = x := by
  by_cases c : inPrs es x
  · obtain ⟨e, he, k | k⟩ := c
    · rw [k, (mate_pair hd he).1, (mate_pair hd he).2]
    · rw [k, (mate_pair hd he).2, (mate_pair hd he).1]
  · rw [mate_out c, mate_out c]
theorem Dis.flip {a b : Nat} {es : Prs} (h : Dis ((a, b) :: es)) : Dis ((b, a) :: es) := by
  unfold Dis at h ⊢
  rw [List.pairwise_cons] at h ⊢
  refine ⟨fun d hd => ?_, h.2⟩
  obtain ⟨h1, h2, h3, h4⟩ := h.1 d hd
  exact ⟨h3, h4, h1, h2⟩
theorem Good.flip {a b : Nat} {es : Prs} (h : Good N ((a, b) :: es)) : Good N ((b, a) :: es) := fun e he => by
  rcases List.mem_cons.1 he with rfl | he
  · have := h (a, b) (List.mem_cons_self ..)
    exact ⟨this.2.1, this.1, fun c => this.2.2 c.symm⟩
  · exact h.tail e he
theorem Flat.bring (h : Pm N σ) {es : Prs} (hg : Good N es) (hd : Dis es) {u : Nat} (hu : inPrs es u) (hf : Flat N σ es) :
    ∃ p es0, Good N ((u, p) :: es0) ∧ Dis ((u, p) :: es0) ∧ Flat N σ ((u, p) :: es0) ∧ ∀ z, mate ((u, p) :: es0) z = mate es z := by
  obtain ⟨⟨a, b⟩, he, k⟩ := hu
  have P := List.perm_cons_erase he
  have hg' := hg.perm P
  have hd' := hd.perm P
  have hf' := hf.perm h hd P
  have hm := mate_perm hd P
  rcases k with k | k
  · have k : u = a := k
    subst k
    exact ⟨b, _, hg', hd', hf', fun z => (hm z).symm⟩
  · have k : u = b := k
    subst k
    exact ⟨a, _, hg'.flip, hd'.flip, hf'.flip h, fun z => by rw [hm z]; exact swp_comm u a _⟩
theorem swp3 {u v p : Nat} (huv : u ≠ v) (hup : u ≠ p) (hvp : v ≠ p) (z : Nat) : swp v p (swp u v (swp u p z)) = swp u v z := by
  have n1 : v ≠ u := fun e => huv e.symm
  have n2 : p ≠ u := fun e => hup e.symm
  have n3 : p ≠ v := fun e => hvp e.symm
  by_cases c1 : z = u
  · subst c1; rw [swp_a, swp_ne n2 n3, swp_b, swp_a]
  · by_cases c2 : z = v
    · subst c2; rw [swp_ne n1 hvp, swp_b, swp_ne huv hup]
    · by_cases c3 : z = p
      · subst c3; rw [swp_b, swp_a, swp_a, swp_ne n2 n3]
      · rw [swp_ne c1 c3, swp_ne c1 c2, swp_ne c2 c3]
theorem Flat.suppress (h : Pm N σ) {es : Prs} (hg : Good N es) (hd : Dis es) {u v : Nat} (hne : u ≠ v) (huv : σ u = v) (hvu : σ v = u) (hu : inPrs es u) (hv : inPrs es v) (hf : Flat N σ es) :
    ∃ es', Good N es' ∧ Dis es' ∧ Flat N (fun x => swp u v (σ x)) es' ∧ ∀ z, mate es' z = if z = u ∨ z = v then z else if mate es z = u then mate es v else if mate es z = v then mate es u else mate es z := by
  obtain ⟨p, es0, g0, d0, f0, m0⟩ := hf.bring h hg hd hu
  obtain ⟨hu', hp, hup⟩ : u < N ∧ p < N ∧ u ≠ p := g0 (u, p) (List.mem_cons_self ..)
  obtain ⟨o1, o2⟩ : ¬ inPrs es0 u ∧ ¬ inPrs es0 p := d0.out
  have m0 : ∀ z, mate es z = swp u p (mate es0 z) := fun z => (m0 z).symm
  have hvN : v < N := by
    have := h.lt u hu'; rwa [huv] at this
  by_cases c : p = v
  · subst c
    have f1 := (f0.drop h g0).split h g0.tail hu' hp hup ⟨1, huv⟩
    refine ⟨es0, g0.tail, d0.tail, f1, fun z => ?_⟩
    by_cases c1 : z = u ∨ z = p
    · rw [if_pos c1]
      rcases c1 with rfl | rfl
      · exact mate_out o1
      · exact mate_out o2
    · have c2 : mate es0 z ≠ u := fun k => c1 (.inl (mate_inj (k.trans (mate_out o1).symm)))
      have c3 : mate es0 z ≠ p := fun k => c1 (.inr (mate_inj (k.trans (mate_out o2).symm)))
      rw [if_neg c1, m0 z, swp_ne c2 c3, if_neg c2, if_neg c3]
  · have hpv : p ≠ v := c
    have hvp : v ≠ p := fun e => c e.symm
    have hk : ¬ Orb σ u p := by
      intro k
      have : p = u ∨ p = v := k.ind (P := fun y => y = u ∨ y = v) (fun y hy => by
        rcases hy with rfl | rfl
        · exact .inr huv
        · exact .inl hvu) (.inl rfl)
      rcases this with k | k
      · exact hup k.symm
      · exact hpv k
    have f1 := f0.contract h g0 d0 hk
    have h1 : Pm N (fun x => swp u p (σ x)) := h.swp hu' hp
    have iv : inPrs es0 v := by
      rw [inPrs_iff hg hd, m0 v] at hv
      rw [inPrs_iff g0.tail d0.tail]
      intro k
      rw [k, swp_ne (fun e => hne e.symm) hvp] at hv
      exact hv rfl
    obtain ⟨q, es1, g1, d1, f2, m1⟩ := f1.bring h1 g0.tail d0.tail iv
    obtain ⟨_, hq, hvq⟩ : v < N ∧ q < N ∧ v ≠ q := g1 (v, q) (List.mem_cons_self ..)
    obtain ⟨o3, o4⟩ : ¬ inPrs es1 v ∧ ¬ inPrs es1 q := d1.out
    have m1 : ∀ z, mate es0 z = swp v q (mate es1 z) := fun z => (m1 z).symm
    have f3 := f2.split h1 g1 hu' hvN hne ⟨1, by
      show swp u p (σ u) = v
      rw [huv]; exact swp_ne (fun e => hne e.symm) hvp⟩
    have h2 : Pm N (fun x => swp u v (swp u p (σ x))) := h1.swp hu' hvN
    -- what is not tied
    have mq0 : mate es0 q = v := by rw [m1, mate_out o4, swp_b]
    have hpq : p ≠ q := fun e => by
      have : mate es0 p = p := mate_out o2
      rw [e, mq0] at this; exact hvq this
    have huq : u ≠ q := fun e => by
      have : mate es0 u = u := mate_out o1
      rw [e, mq0] at this; exact hvq this
    have out1 : ∀ {z}, ¬ inPrs es0 z → ¬ inPrs es1 z := fun {z} hz k => by
      have e1 : mate es0 z = z := mate_out hz
      rw [m1] at e1
      rw [inPrs_iff g1.tail d1.tail] at k
      by_cases c1 : mate es1 z = v
      · exact k (by rw [c1]; exact (mate_inj (c1.trans (mate_out o3).symm)).symm)
      · by_cases c2 : mate es1 z = q
        · exact k (by rw [c2]; exact (mate_inj (c2.trans (mate_out o4).symm)).symm)
        · rw [swp_ne c1 c2] at e1; exact k e1
    have f4 := f3.move h2 g1 d1 hp hpv hpq (out1 o2) (by
      show swp u v (swp u p (σ v)) = p
      rw [hvu, swp_a]; exact swp_ne (fun e => hup e.symm) hpv)
    have g4 : Good N ((p, q) :: es1) := fun e he => by
      rcases List.mem_cons.1 he with rfl | he
      · exact ⟨hp, hq, hpq⟩
      · exact g1.tail e he
    have d4 : Dis ((p, q) :: es1) := by
      unfold Dis
      rw [List.pairwise_cons]
      refine ⟨fun d hd => ⟨fun e => out1 o2 ⟨d, hd, .inl e⟩, fun e => out1 o2 ⟨d, hd, .inr e⟩, fun e => o4 ⟨d, hd, .inl e⟩, fun e => o4 ⟨d, hd, .inr e⟩⟩, d1.tail⟩
    refine ⟨(p, q) :: es1, g4, d4, ?_, fun z => ?_⟩
    · have e : (fun x => swp v p (swp u v (swp u p (σ x)))) = fun x => swp u v (σ x) := funext fun x => swp3 hne hup hvp _
      rw [← e]; exact f4
    · have eu : mate es1 u = u := mate_out (out1 o1)
      have ep : mate es1 p = p := mate_out (out1 o2)
      have ev : mate es1 v = v := mate_out o3
      have eq : mate es1 q = q := mate_out o4
      have mz : ∀ z, mate es z = swp u p (swp v q (mate es1 z)) := fun z => by rw [m0, m1]
      have mu : mate es u = p := by rw [mz, eu, swp_ne hne huq, swp_a]
      have mv : mate es v = q := by rw [mz, ev, swp_a, swp_ne (fun e => huq e.symm) (fun e => hpq e.symm)]
      have mp : mate es p = u := by rw [mz, ep, swp_ne hpv hpq, swp_b]
      have mq : mate es q = v := by rw [mz, eq, swp_b, swp_ne (fun e => hne e.symm) hvp]
      show swp p q (mate es1 z) = _
      by_cases c1 : z = u
      · rw [if_pos (.inl c1), c1, eu, swp_ne hup huq]
      · by_cases c2 : z = v
        · rw [if_pos (.inr c2), c2, ev, swp_ne hvp hvq]
        · rw [if_neg fun k => k.elim c1 c2]
          by_cases c3 : z = p
          · rw [c3, ep, swp_a, mp, if_pos rfl, mv]
          · by_cases c4 : z = q
            · rw [c4, eq, swp_b, mq, if_neg (fun e => hne e.symm), if_pos rfl, mu]
            · have w1 : mate es1 z ≠ u := fun k => c1 (mate_inj (k.trans eu.symm))
              have w2 : mate es1 z ≠ v := fun k => c2 (mate_inj (k.trans ev.symm))
              have w3 : mate es1 z ≠ p := fun k => c3 (mate_inj (k.trans ep.symm))
              have w4 : mate es1 z ≠ q := fun k => c4 (mate_inj (k.trans eq.symm))
              rw [swp_ne w3 w4, mz, swp_ne w2 w4, swp_ne w1 w3, if_neg w1, if_neg w2]
end
end Go.Proofs.YtdelekkbkpldjaaDoor.Kn

/- A kink and a face of two sides taken out, as permutations tell: plain mathematics. -/
namespace Go.Proofs.YtdelekkbkpldjaaDoor.Kn
section
variable {N : Nat} {σ : Nat → Nat}
theorem Flat.kink (h : Pm N σ) {es : Prs} (hg : Good N es) (hd : Dis es) (hf : Flat N σ es) {A B C D : Nat} (hnd : [A, B, C, D].Nodup)
    (sA : σ A = D) (sD : σ D = C) (sC : σ C = B) (sB : σ B = A) (mA : mate es A = B) (iC : mate es C ≠ C) (iD : mate es D ≠ D) :
    ∃ es', Good N es' ∧ Dis es' ∧ Pm N (fun x => if x ∈ [A, B, C, D] then x else σ x) ∧ Flat N (fun x => if x ∈ [A, B, C, D] then x else σ x) es' ∧
      ∀ z, mate es' z = if z ∈ [A, B, C, D] then z else if mate es z = C then mate es D else if mate es z = D then mate es C else mate es z := by
  have hnd' := hnd
  simp only [List.nodup_cons, List.mem_cons, List.not_mem_nil, or_false, not_or, List.nodup_nil, and_true, not_false_eq_true] at hnd'
  obtain ⟨⟨nAB, nAC, nAD⟩, ⟨nBC, nBD⟩, nCD⟩ := hnd'
  have nBA : ¬ B = A := fun e => nAB e.symm
  have nCA : ¬ C = A := fun e => nAC e.symm
  have nDA : ¬ D = A := fun e => nAD e.symm
  have nCB : ¬ C = B := fun e => nBC e.symm
  have nDB : ¬ D = B := fun e => nBD e.symm
  have nDC : ¬ D = C := fun e => nCD e.symm
  have iA : inPrs es A := (inPrs_iff hg hd A).2 (by rw [mA]; exact nBA)
  obtain ⟨p, es0, g0, d0, f0, m0⟩ := hf.bring h hg hd iA
  obtain ⟨hA, hp, _⟩ : A < N ∧ p < N ∧ A ≠ p := g0 (A, p) (List.mem_cons_self ..)
  obtain ⟨o1, o2⟩ : ¬ inPrs es0 A ∧ ¬ inPrs es0 p := d0.out
  have m0 : ∀ z, mate es z = swp A p (mate es0 z) := fun z => (m0 z).symm
  have hpB : p = B := by rw [← mA, m0, mate_out o1, swp_a]
  subst hpB
  have hD : D < N := by have := h.lt A hA; rwa [sA] at this
  have hC : C < N := by have := h.lt D hD; rwa [sD] at this
  have f1 := (f0.drop h g0).split h g0.tail hA hD nAD ⟨1, sA⟩
  have h1 : Pm N (fun x => swp A D (σ x)) := h.swp hA hD
  have f2 := f1.split h1 g0.tail hp hD nBD ⟨1, by show swp A D (σ p) = D; rw [sB, swp_a]⟩
  have h2 : Pm N (fun x => swp p D (swp A D (σ x))) := h1.swp hp hD
  have c0 : ∀ {z}, z ≠ A → z ≠ p → (mate es0 z ≠ A ∧ mate es0 z ≠ p ∧ mate es z = mate es0 z) := fun {z} h1 h2 => by
    have w1 : mate es0 z ≠ A := fun k => h1 (mate_inj (k.trans (mate_out o1).symm))
    have w2 : mate es0 z ≠ p := fun k => h2 (mate_inj (k.trans (mate_out o2).symm))
    exact ⟨w1, w2, by rw [m0, swp_ne w1 w2]⟩
  have mC := c0 nCA nCB
  have mD := c0 nDA nDB
  obtain ⟨es', g', d', f', m'⟩ := f2.suppress h2 g0.tail d0.tail (u := C) (v := D) nCD
    (by show swp p D (swp A D (σ C)) = D; rw [sC, swp_ne nBA nBD, swp_a])
    (by show swp p D (swp A D (σ D)) = C; rw [sD, swp_ne nCA nCD, swp_ne nCB nCD])
    ((inPrs_iff g0.tail d0.tail C).2 (mC.2.2 ▸ iC)) ((inPrs_iff g0.tail d0.tail D).2 (mD.2.2 ▸ iD))
  have e : (fun x => if x ∈ [A, p, C, D] then x else σ x) = fun x => swp C D (swp p D (swp A D (σ x))) := funext fun x => by
    by_cases c1 : x = A
    · subst c1; simp [sA, swp, *]
    · by_cases c2 : x = p
      · subst c2; simp [sB, swp, *]
      · by_cases c3 : x = C
        · subst c3; simp [sC, swp, *]
        · by_cases c4 : x = D
          · subst c4; simp [sD, swp, *]
          · have e1 : ¬ σ x = A := fun k => c2 (h.inj _ _ (k.trans sB.symm))
            have e2 : ¬ σ x = p := fun k => c3 (h.inj _ _ (k.trans sC.symm))
            have e3 : ¬ σ x = C := fun k => c4 (h.inj _ _ (k.trans sD.symm))
            have e4 : ¬ σ x = D := fun k => c1 (h.inj _ _ (k.trans sA.symm))
            simp [swp, e1, e2, e3, e4, c1, c2, c3, c4]
  refine ⟨es', g', d', by rw [e]; exact h2.swp hC hD, by rw [e]; exact f', fun z => ?_⟩
  · rw [m']
    by_cases c1 : z = A
    · subst c1
      rw [if_neg (by simp [nAC, nAD]), mate_out o1, if_neg nAC, if_neg nAD, if_pos (by simp)]
    · by_cases c2 : z = p
      · subst c2
        rw [if_neg (by simp [nBC, nBD]), mate_out o2, if_neg nBC, if_neg nBD, if_pos (by simp)]
      · simp [c1, c2, (c0 c1 c2).2.2, mC.2.2, mD.2.2]
theorem Flat.bigon (h : Pm N σ) {es : Prs} (hg : Good N es) (hd : Dis es) (hf : Flat N σ es) {A B C D a b c d : Nat} (hnd : [A, B, C, D, a, b, c, d].Nodup)
    (sA : σ A = D) (sD : σ D = C) (sC : σ C = B) (sB : σ B = A) (sa : σ a = b) (sb : σ b = c) (sc : σ c = d) (sd : σ d = a)
    (mA : mate es A = a) (mB : mate es B = b) (iC : mate es C ≠ C) (iD : mate es D ≠ D) (ic : mate es c ≠ c) (id : mate es d ≠ d) :
    ∃ (es' : Prs) (m1 : Nat → Nat), Good N es' ∧ Dis es' ∧ Pm N (fun x => if x ∈ [A, B, C, D, a, b, c, d] then x else σ x) ∧ Flat N (fun x => if x ∈ [A, B, C, D, a, b, c, d] then x else σ x) es' ∧
      (∀ z, z ∉ [A, B, a, b] → m1 z = if z = C ∨ z = c then z else if mate es z = C then mate es c else if mate es z = c then mate es C else mate es z) ∧
      ∀ z, mate es' z = if z ∈ [A, B, C, D, a, b, c, d] then z else if m1 z = D then m1 d else if m1 z = d then m1 D else m1 z := by
  have hnd' := hnd
  simp only [List.nodup_cons, List.mem_cons, List.not_mem_nil, or_false, not_or, List.nodup_nil, and_true, not_false_eq_true] at hnd'
  obtain ⟨⟨nAB, nAC, nAD, nAa, nAb, nAc, nAd⟩, ⟨nBC, nBD, nBa, nBb, nBc, nBd⟩, ⟨nCD, nCa, nCb, nCc, nCd⟩, ⟨nDa, nDb, nDc, nDd⟩, ⟨nab, nac, nad⟩, ⟨nbc, nbd⟩, ncd⟩ := hnd'
  have nBA : ¬ B = A := fun e => nAB e.symm
  have nCA : ¬ C = A := fun e => nAC e.symm
  have nDA : ¬ D = A := fun e => nAD e.symm
  have naA : ¬ a = A := fun e => nAa e.symm
  have nbA : ¬ b = A := fun e => nAb e.symm
  have ncA : ¬ c = A := fun e => nAc e.symm
  have ndA : ¬ d = A := fun e => nAd e.symm
  have nCB : ¬ C = B := fun e => nBC e.symm
  have nDB : ¬ D = B := fun e => nBD e.symm
  have naB : ¬ a = B := fun e => nBa e.symm
  have nbB : ¬ b = B := fun e => nBb e.symm
  have ncB : ¬ c = B := fun e => nBc e.symm
  have ndB : ¬ d = B := fun e => nBd e.symm
  have nDC : ¬ D = C := fun e => nCD e.symm
  have naC : ¬ a = C := fun e => nCa e.symm
  have nbC : ¬ b = C := fun e => nCb e.symm
  have ncC : ¬ c = C := fun e => nCc e.symm
  have ndC : ¬ d = C := fun e => nCd e.symm
  have naD : ¬ a = D := fun e => nDa e.symm
  have nbD : ¬ b = D := fun e => nDb e.symm
  have ncD : ¬ c = D := fun e => nDc e.symm
  have ndD : ¬ d = D := fun e => nDd e.symm
  have nba : ¬ b = a := fun e => nab e.symm
  have nca : ¬ c = a := fun e => nac e.symm
  have nda : ¬ d = a := fun e => nad e.symm
  have ncb : ¬ c = b := fun e => nbc e.symm
  have ndb : ¬ d = b := fun e => nbd e.symm
  have ndc : ¬ d = c := fun e => ncd e.symm
  have iA : inPrs es A := (inPrs_iff hg hd A).2 (by rw [mA]; exact naA)
  obtain ⟨p, es0, g0, d0, f0, m0⟩ := hf.bring h hg hd iA
  obtain ⟨hA, hp, _⟩ : A < N ∧ p < N ∧ A ≠ p := g0 (A, p) (List.mem_cons_self ..)
  obtain ⟨o1, o2⟩ : ¬ inPrs es0 A ∧ ¬ inPrs es0 p := d0.out
  have m0 : ∀ z, mate es z = swp A p (mate es0 z) := fun z => (m0 z).symm
  have hpa : p = a := by rw [← mA, m0, mate_out o1, swp_a]
  subst hpa
  have hD : D < N := by have := h.lt A hA; rwa [sA] at this
  have hC : C < N := by have := h.lt D hD; rwa [sD] at this
  have hB : B < N := by have := h.lt C hC; rwa [sC] at this
  have hb : b < N := by have := h.lt p hp; rwa [sa] at this
  have hc : c < N := by have := h.lt b hb; rwa [sb] at this
  have hd' : d < N := by have := h.lt c hc; rwa [sc] at this
  have hk : ¬ Orb σ A p := fun k => by
    have : p = A ∨ p = B ∨ p = C ∨ p = D := k.ind (P := fun y => y = A ∨ y = B ∨ y = C ∨ y = D) (fun y hy => by
      rcases hy with rfl | rfl | rfl | rfl
      · exact .inr (.inr (.inr sA))
      · exact .inl sB
      · exact .inr (.inl sC)
      · exact .inr (.inr (.inl sD))) (.inl rfl)
    rcases this with k | k | k | k
    · exact naA k
    · exact naB k
    · exact naC k
    · exact naD k
  have f1 := f0.contract h g0 d0 hk
  have h1 : Pm N (fun x => swp A p (σ x)) := h.swp hA hp
  have c0 : ∀ {z}, z ≠ A → z ≠ p → (mate es0 z ≠ A ∧ mate es0 z ≠ p ∧ mate es z = mate es0 z) := fun {z} h1 h2 => by
    have w1 : mate es0 z ≠ A := fun k => h1 (mate_inj (k.trans (mate_out o1).symm))
    have w2 : mate es0 z ≠ p := fun k => h2 (mate_inj (k.trans (mate_out o2).symm))
    exact ⟨w1, w2, by rw [m0, swp_ne w1 w2]⟩
  have iB : inPrs es0 B := (inPrs_iff g0.tail d0.tail B).2 (by rw [← (c0 nBA nBa).2.2, mB]; exact nbB)
  obtain ⟨q, es1, g1, d1, f2, m1⟩ := f1.bring h1 g0.tail d0.tail iB
  obtain ⟨o3, o4⟩ : ¬ inPrs es1 B ∧ ¬ inPrs es1 q := d1.out
  have m1 : ∀ z, mate es0 z = swp B q (mate es1 z) := fun z => (m1 z).symm
  have hqb : q = b := by rw [← mB, (c0 nBA nBa).2.2, m1, mate_out o3, swp_a]
  subst hqb
  have c1 : ∀ {z}, z ≠ A → z ≠ p → z ≠ B → z ≠ q → mate es z = mate es1 z := fun {z} h1 h2 h3 h4 => by
    have w1 : mate es1 z ≠ B := fun k => h3 (mate_inj (k.trans (mate_out o3).symm))
    have w2 : mate es1 z ≠ q := fun k => h4 (mate_inj (k.trans (mate_out o4).symm))
    rw [(c0 h1 h2).2.2, m1, swp_ne w1 w2]
  have f3 := f2.drop h1 g1
  have f4 := f3.split h1 g1.tail hA hD nAD ⟨1, by show swp A p (σ A) = D; rw [sA, swp_ne nDA nDa]⟩
  have h4 : Pm N (fun x => swp A D (swp A p (σ x))) := h1.swp hA hD
  have f5 := f4.split h4 g1.tail hB hp nBa ⟨1, by show swp A D (swp A p (σ B)) = p; rw [sB, swp_a, swp_ne naA naD]⟩
  have h5 : Pm N (fun x => swp B p (swp A D (swp A p (σ x)))) := h4.swp hB hp
  have f6 := f5.split h5 g1.tail hp hb nab ⟨1, by show swp B p (swp A D (swp A p (σ p))) = q; rw [sa, swp_ne nbA nba, swp_ne nbA nbD, swp_ne nbB nba]⟩
  have h6 : Pm N (fun x => swp p q (swp B p (swp A D (swp A p (σ x))))) := h5.swp hp hb
  have f7 := f6.split h6 g1.tail hb hc nbc ⟨1, by show swp p q (swp B p (swp A D (swp A p (σ q)))) = c; rw [sb, swp_ne ncA nca, swp_ne ncA ncD, swp_ne ncB nca, swp_ne nca ncb]⟩
  have h7 : Pm N (fun x => swp q c (swp p q (swp B p (swp A D (swp A p (σ x)))))) := h6.swp hb hc
  have vC : swp q c (swp p q (swp B p (swp A D (swp A p (σ C))))) = c := by rw [sC, swp_ne nBA nBa, swp_ne nBA nBD, swp_a, swp_a, swp_a]
  have vc : swp q c (swp p q (swp B p (swp A D (swp A p (σ c))))) = d := by rw [sc, swp_ne ndA nda, swp_ne ndA ndD, swp_ne ndB nda, swp_ne nda ndb, swp_ne ndb ndc]
  have vD : swp q c (swp p q (swp B p (swp A D (swp A p (σ D))))) = C := by rw [sD, swp_ne nCA nCa, swp_ne nCA nCD, swp_ne nCB nCa, swp_ne nCa nCb, swp_ne nCb nCc]
  have vd : swp q c (swp p q (swp B p (swp A D (swp A p (σ d))))) = D := by rw [sd, swp_b, swp_a, swp_ne nDB nDa, swp_ne nDa nDb, swp_ne nDb nDc]
  have f8 := f7.split h7 g1.tail hC hd' nCd ⟨2, by
    show swp q c (swp p q (swp B p (swp A D (swp A p (σ (swp q c (swp p q (swp B p (swp A D (swp A p (σ C)))))))))))= d
    rw [vC, vc]⟩
  have h8 : Pm N (fun x => swp C d (swp q c (swp p q (swp B p (swp A D (swp A p (σ x))))))) := h7.swp hC hd'
  have mC := c1 nCA nCa nCB nCb
  have mD := c1 nDA nDa nDB nDb
  have mc := c1 ncA nca ncB ncb
  have md := c1 ndA nda ndB ndb
  obtain ⟨es2, g9, d9, f9, m9⟩ := f8.suppress h8 g1.tail d1.tail (u := C) (v := c) nCc
    (by show swp C d (swp q c (swp p q (swp B p (swp A D (swp A p (σ C)))))) = c; rw [vC, swp_ne ncC ncd])
    (by show swp C d (swp q c (swp p q (swp B p (swp A D (swp A p (σ c)))))) = C; rw [vc, swp_b])
    ((inPrs_iff g1.tail d1.tail C).2 (mC ▸ iC)) ((inPrs_iff g1.tail d1.tail c).2 (mc ▸ ic))
  have h9 : Pm N (fun x => swp C c (swp C d (swp q c (swp p q (swp B p (swp A D (swp A p (σ x)))))))) := h8.swp hC hc
  have inj1 : ∀ {x y}, mate es1 x = y → mate es1 y = x := fun {x y} k => by rw [← k, mate_mate d1.tail]
  have free : ∀ z, z ≠ C → z ≠ c → mate es1 z ≠ z → mate es2 z ≠ z := fun z k1 k2 k3 => by
    rw [m9, if_neg fun k => k.elim k1 k2]
    by_cases e1 : mate es1 z = C
    · rw [if_pos e1]
      intro k
      have := inj1 k
      rw [e1] at this; exact nCc this
    · rw [if_neg e1]
      by_cases e2 : mate es1 z = c
      · rw [if_pos e2]
        intro k
        have := inj1 k
        exact nCc (this.symm.trans e2)
      · rw [if_neg e2]; exact k3
  obtain ⟨es', g', d', f', m'⟩ := f9.suppress h9 g9 d9 (u := D) (v := d) nDd
    (by show swp C c (swp C d (swp q c (swp p q (swp B p (swp A D (swp A p (σ D))))))) = d; rw [vD, swp_a, swp_ne ndC ndc])
    (by show swp C c (swp C d (swp q c (swp p q (swp B p (swp A D (swp A p (σ d))))))) = D; rw [vd, swp_ne nDC nDd, swp_ne nDC nDc])
    ((inPrs_iff g9 d9 D).2 (free D nDC nDc (mD ▸ iD))) ((inPrs_iff g9 d9 d).2 (free d ndC ndc (md ▸ id)))
  have e : (fun x => if x ∈ [A, B, C, D, p, q, c, d] then x else σ x) = fun x => swp D d (swp C c (swp C d (swp q c (swp p q (swp B p (swp A D (swp A p (σ x)))))))) := funext fun x => by
    by_cases c1 : x = A
    · subst c1; rw [if_pos (by simp), sA, swp_ne nDA nDa, swp_b, swp_ne nAB nAa, swp_ne nAa nAb, swp_ne nAb nAc, swp_ne nAC nAd, swp_ne nAC nAc, swp_ne nAD nAd]
    by_cases c2 : x = B
    · subst c2; rw [if_pos (by simp), sB, swp_a, swp_ne naA naD, swp_b, swp_ne nBa nBb, swp_ne nBb nBc, swp_ne nBC nBd, swp_ne nBC nBc, swp_ne nBD nBd]
    by_cases c3 : x = C
    · subst c3; rw [if_pos (by simp), vC, swp_ne ncC ncd, swp_b, swp_ne nCD nCd]
    by_cases c4 : x = D
    · subst c4; rw [if_pos (by simp), vD, swp_a, swp_ne ndC ndc, swp_b]
    by_cases c5 : x = p
    · subst c5; rw [if_pos (by simp), sa, swp_ne nbA nba, swp_ne nbA nbD, swp_ne nbB nba, swp_b, swp_ne nab nac, swp_ne naC nad, swp_ne naC nac, swp_ne naD nad]
    by_cases c6 : x = q
    · subst c6; rw [if_pos (by simp), sb, swp_ne ncA nca, swp_ne ncA ncD, swp_ne ncB nca, swp_ne nca ncb, swp_b, swp_ne nbC nbd, swp_ne nbC nbc, swp_ne nbD nbd]
    by_cases c7 : x = c
    · subst c7; rw [if_pos (by simp), vc, swp_b, swp_a, swp_ne ncD ncd]
    by_cases c8 : x = d
    · subst c8; rw [if_pos (by simp), vd, swp_ne nDC nDd, swp_ne nDC nDc, swp_a]
    have eA : σ x ≠ A := fun k => c2 (h.inj _ _ (k.trans sB.symm))
    have eB : σ x ≠ B := fun k => c3 (h.inj _ _ (k.trans sC.symm))
    have eC : σ x ≠ C := fun k => c4 (h.inj _ _ (k.trans sD.symm))
    have eD : σ x ≠ D := fun k => c1 (h.inj _ _ (k.trans sA.symm))
    have ea : σ x ≠ p := fun k => c8 (h.inj _ _ (k.trans sd.symm))
    have eb : σ x ≠ q := fun k => c5 (h.inj _ _ (k.trans sa.symm))
    have ec : σ x ≠ c := fun k => c6 (h.inj _ _ (k.trans sb.symm))
    have ed : σ x ≠ d := fun k => c7 (h.inj _ _ (k.trans sc.symm))
    rw [if_neg (by simp [c1, c2, c3, c4, c5, c6, c7, c8]), swp_ne eA ea, swp_ne eA eD, swp_ne eB ea, swp_ne ea eb, swp_ne eb ec, swp_ne eC ed, swp_ne eC ec, swp_ne eD ed]
  refine ⟨es', mate es2, g', d', by rw [e]; exact h9.swp hD hd', by rw [e]; exact f', fun z hz => ?_, fun z => ?_⟩
  · simp only [List.mem_cons, List.not_mem_nil, or_false, not_or] at hz
    rw [m9, mC, mc, c1 hz.1 hz.2.2.1 hz.2.1 hz.2.2.2]
  · have out : ∀ z, mate es1 z = z → z ≠ C → z ≠ c → z ≠ D → z ≠ d → mate es' z = z := fun z k1 k2 k3 k4 k5 => by
      have : mate es2 z = z := by rw [m9, if_neg fun k => k.elim k2 k3, k1, if_neg k2, if_neg k3]
      rw [m', if_neg fun k => k.elim k4 k5, this, if_neg k4, if_neg k5]
    have oA : mate es1 A = A := mate_out fun k => by
      rw [inPrs_iff g1.tail d1.tail] at k
      have e1 : mate es0 A = A := mate_out o1
      have w1 : mate es1 A ≠ B := fun k => nAB (mate_inj (k.trans (mate_out o3).symm))
      have w2 : mate es1 A ≠ q := fun k => nAb (mate_inj (k.trans (mate_out o4).symm))
      rw [m1, swp_ne w1 w2] at e1
      exact k e1
    have oa : mate es1 p = p := mate_out fun k => by
      rw [inPrs_iff g1.tail d1.tail] at k
      have e1 : mate es0 p = p := mate_out o2
      have w1 : mate es1 p ≠ B := fun k => naB (mate_inj (k.trans (mate_out o3).symm))
      have w2 : mate es1 p ≠ q := fun k => nab (mate_inj (k.trans (mate_out o4).symm))
      rw [m1, swp_ne w1 w2] at e1
      exact k e1
    by_cases c1 : z = A
    · subst c1; rw [if_pos (by simp)]; exact out _ oA nAC nAc nAD nAd
    by_cases c2 : z = B
    · subst c2; rw [if_pos (by simp)]; exact out _ (mate_out o3) nBC nBc nBD nBd
    by_cases c5 : z = p
    · subst c5; rw [if_pos (by simp)]; exact out _ oa naC nac naD nad
    by_cases c6 : z = q
    · subst c6; rw [if_pos (by simp)]; exact out _ (mate_out o4) nbC nbc nbD nbd
    by_cases c4 : z = D
    · rw [m', if_pos (.inl c4), if_pos (by simp [c4])]
    by_cases c8 : z = d
    · rw [m', if_pos (.inr c8), if_pos (by simp [c8])]
    rw [m', if_neg fun k => k.elim c4 c8]
    have hCc : ∀ y, y = C ∨ y = c → mate es2 y = y := fun y hy => by rw [m9, if_pos hy]
    by_cases c3 : z = C
    · rw [if_pos (show z ∈ [A, B, C, D, p, q, c, d] by simp [c3]), hCc z (.inl c3), c3, if_neg nCD, if_neg nCd]
    by_cases c7 : z = c
    · rw [if_pos (show z ∈ [A, B, C, D, p, q, c, d] by simp [c7]), hCc z (.inr c7), c7, if_neg ncD, if_neg ncd]
    rw [if_neg (show z ∉ [A, B, C, D, p, q, c, d] by simp [c1, c2, c3, c4, c5, c6, c7, c8])]
end
end Go.Proofs.YtdelekkbkpldjaaDoor.Kn

/- Strands that go on where crossings are taken out: ends that are left, and which one is tied to which: plain mathematics. -/
namespace Go.Proofs.YtdelekkbkpldjaaDoor.Kn

theorem com_id_equiv (es : Prs) : Equivalence (com (fun x => x) es) := com_equiv (N := 0) ⟨fun _ h => h, fun _ _ => rfl, fun _ _ h => h⟩ es
theorem com_id_pair {es : Prs} {e : Nat × Nat} (h : e ∈ es) : com (fun x => x) es e.1 e.2 := com_pair (N := 0) ⟨fun _ h => h, fun _ _ => rfl, fun _ _ h => h⟩ h
theorem com_id_nil {x y : Nat} : com (fun x => x) [] x y ↔ x = y := by
  constructor
  · rintro ⟨n, hn⟩
    have : ∀ n, it (fun x : Nat => x) n x = x := fun n => by
      induction n with
      | zero => rfl
      | succ n ih => exact ih
    rw [← hn, this]
  · rintro rfl; exact Orb.refl _ _
theorem com_id_mono {es es' : Prs} (h : ∀ e ∈ es, com (fun x => x) es' e.1 e.2) {x y : Nat} (k : com (fun x => x) es x y) : com (fun x => x) es' x y :=
  com_least (com_id_equiv es') (fun x => (com_id_equiv es').refl x) h k

/- what is left of a diagram: the places, which arcs are one, and the place at the other end -/
structure Tied (X : List Cr) (live : Pl → Prop) (E : Nat → Nat → Prop) (o : Pl → Pl) : Prop where
  isP : ∀ p, live p → isPl X p
  lv : ∀ p, live p → live (o p)
  op : ∀ p, live p → cm X (o p) = !cm X p
  eq : ∀ p, live p → E (arcN X p) (arcN X (o p))
  un : ∀ p q, live p → live q → cm X p = cm X q → E (arcN X p) (arcN X q) → p = q
section
variable {X : List Cr} {live : Pl → Prop} {E : Nat → Nat → Prop} {o : Pl → Pl}
theorem Ok.tied (h : Ok X) : Tied X (isPl X) (com (fun x => x) []) (other X) where
  isP := fun _ hp => hp
  lv := fun _ hp => h.isPl_other hp
  op := fun _ hp => h.cm_other hp
  eq := fun _ hp => by rw [h.arc_other hp]; exact com_id_nil.2 rfl
  un := fun p q hp hq hc ha => h.uniq p q hp hq hc (by rw [← h.arcN_eq hp, ← h.arcN_eq hq, com_id_nil.1 ha])
theorem Tied.oo (h : Tied X live E o) (hE : Equivalence E) {p : Pl} (hp : live p) : o (o p) = p :=
  h.un _ _ (h.lv _ (h.lv _ hp)) hp (by rw [h.op _ (h.lv _ hp), h.op _ hp, Bool.not_not]) (hE.symm (hE.trans (h.eq _ hp) (h.eq _ (h.lv _ hp))))
theorem Tied.ne (h : Tied X live E o) {p : Pl} (hp : live p) : o p ≠ p := fun e => by
  have := h.op p hp
  rw [e] at this
  cases hh : cm X p <;> simp [hh] at this
theorem Tied.congr (h : Tied X live E o) {live' : Pl → Prop} {E' : Nat → Nat → Prop} {o' : Pl → Pl} (h1 : ∀ p, live' p ↔ live p) (h2 : ∀ x y, E' x y ↔ E x y) (h3 : ∀ p, live p → o' p = o p) : Tied X live' E' o' where
  isP := fun p hp => h.isP p ((h1 p).1 hp)
  lv := fun p hp => by rw [h3 p ((h1 p).1 hp)]; exact (h1 _).2 (h.lv p ((h1 p).1 hp))
  op := fun p hp => by rw [h3 p ((h1 p).1 hp)]; exact h.op p ((h1 p).1 hp)
  eq := fun p hp => by rw [h3 p ((h1 p).1 hp)]; exact (h2 _ _).2 (h.eq p ((h1 p).1 hp))
  un := fun p q hp hq hc ha => h.un p q ((h1 p).1 hp) ((h1 q).1 hq) hc ((h2 _ _).1 ha)
theorem Tied.step (h : Tied X live E o) (hE : Equivalence E) {u v : Pl} (hu : live u) (hv : live v) (hc : cm X v = !cm X u) :
    Tied X (fun p => live p ∧ p ≠ u ∧ p ≠ v) (mrg E (arcN X u) (arcN X v)) (fun p => if o p = u then o v else if o p = v then o u else o p) where
  isP := fun p hp => h.isP p hp.1
  lv := fun p ⟨hp, h1, h2⟩ => by
    show live (if _ then _ else _) ∧ _
    by_cases c : o p = u
    · simp only [if_pos c]
      refine ⟨h.lv v hv, fun e => h2 ?_, h.ne hv⟩
      rw [← h.oo hE hp, c, ← e, h.oo hE hv]
    · simp only [if_neg c]
      by_cases d : o p = v
      · simp only [if_pos d]
        refine ⟨h.lv u hu, h.ne hu, fun e => h1 ?_⟩
        rw [← h.oo hE hp, d, ← e, h.oo hE hu]
      · simp only [if_neg d]
        exact ⟨h.lv p hp, c, d⟩
  op := fun p ⟨hp, _, _⟩ => by
    have hop := h.op p hp
    by_cases c : o p = u
    · simp only [if_pos c]
      rw [c] at hop
      rw [h.op v hv, hc, hop]; simp
    · simp only [if_neg c]
      by_cases d : o p = v
      · simp only [if_pos d]
        rw [d, hc] at hop
        rw [h.op u hu, hop]
      · simp only [if_neg d]; exact hop
  eq := fun p ⟨hp, _, _⟩ => by
    have he := h.eq p hp
    by_cases c : o p = u
    · simp only [if_pos c]
      rw [c] at he
      exact .inr (.inl ⟨he, h.eq v hv⟩)
    · simp only [if_neg c]
      by_cases d : o p = v
      · simp only [if_pos d]
        rw [d] at he
        exact .inr (.inr ⟨he, h.eq u hu⟩)
      · simp only [if_neg d]; exact .inl he
  un := fun p q ⟨hp, p1, p2⟩ ⟨hq, q1, q2⟩ hcm ha => by
    rcases ha with ha | ⟨h1, h2⟩ | ⟨h1, h2⟩
    · exact h.un p q hp hq hcm ha
    · by_cases c : cm X p = cm X u
      · exact absurd (h.un p u hp hu c h1) p1
      · refine absurd (h.un v q hv hq ?_ h2).symm q2
        rw [hc, ← hcm]
        cases hh : cm X p <;> cases hk : cm X u <;> simp [hh, hk] at c <;> rfl
    · by_cases c : cm X p = cm X v
      · exact absurd (h.un p v hp hv c h1) p2
      · refine absurd (h.un u q hu hq ?_ h2).symm q1
        rw [← hcm]
        rw [hc] at c
        cases hh : cm X p <;> cases hk : cm X u <;> simp [hh, hk] at c <;> rfl
/- two crossings passed one behind the other -/
theorem Tied.pass (h : Tied X live E o) (hE : Equivalence E) {A C a c : Pl} (hA : live A) (hC : live C) (ha : live a) (hc : live c) (hAC : cm X C = !cm X A) (hac : cm X c = !cm X a)
    (hoA : o A = a) (n1 : A ≠ c) (n2 : C ≠ a) (n3 : C ≠ c) (n4 : A ≠ C) (n5 : a ≠ c) :
    Tied X (fun p => live p ∧ p ≠ A ∧ p ≠ C ∧ p ≠ a ∧ p ≠ c) (mrg (mrg E (arcN X A) (arcN X C)) (arcN X a) (arcN X c)) (fun p => if o p = C then o c else if o p = c then o C else o p) := by
  have n6 : a ≠ A := fun e => h.ne hA (hoA.trans e)
  have hoa : o a = A := by rw [← hoA, h.oo hE hA]
  have inj : ∀ {p q}, live p → live q → o p = o q → p = q := fun {p q} hp hq e => by rw [← h.oo hE hp, e, h.oo hE hq]
  have s1 := h.step hE hA hC hAC
  have s2 := s1.step (mrg_equiv hE _ _) (u := a) (v := c) ⟨ha, n6, fun e => n2 e.symm⟩ ⟨hc, fun e => n1 e.symm, fun e => n3 e.symm⟩ hac
  refine s2.congr (fun p => ?_) (fun _ _ => Iff.rfl) fun p hp => ?_
  · constructor
    · rintro ⟨h1, h2, h3, h4, h5⟩; exact ⟨⟨h1, h2, h3⟩, h4, h5⟩
    · rintro ⟨⟨h1, h2, h3⟩, h4, h5⟩; exact ⟨h1, h2, h3, h4, h5⟩
  · obtain ⟨⟨hp, p1, p2⟩, p3, p4⟩ := hp
    have oA : o p ≠ A := fun e => p3 (inj hp ha (e.trans hoa.symm))
    have oa : o p ≠ a := fun e => p1 (inj hp hA (e.trans hoA.symm))
    have ocA : o c ≠ A := fun e => n5 (inj hc ha (e.trans hoa.symm)).symm
    have vp : (if o p = A then o C else if o p = C then o A else o p) = if o p = C then a else o p := by rw [if_neg oA, hoA]
    have vc : (if o c = A then o C else if o c = C then o A else o c) = if o c = C then a else o c := by rw [if_neg ocA, hoA]
    have va : (if o a = A then o C else if o a = C then o A else o a) = o C := by rw [if_pos hoa]
    simp only [vp, vc, va]
    by_cases c1 : o p = C
    · rw [if_pos c1, if_pos c1, if_pos rfl]
      have : o c ≠ C := fun e => p4 (inj hp hc (c1.trans e.symm))
      rw [if_neg this]
    · rw [if_neg c1, if_neg c1, if_neg oa]
/- a crossing left at once by an arc of its own -/
theorem Tied.kink (h : Tied X live E o) (hE : Equivalence E) {A B C D : Pl} (hA : live A) (hB : live B) (hC : live C) (hD : live D) (hAC : cm X C = !cm X A) (hBD : cm X D = !cm X B)
    (hoA : o A = B) (n1 : A ≠ C) (n2 : A ≠ D) (n3 : B ≠ C) (n4 : B ≠ D) (n5 : C ≠ D) :
    Tied X (fun p => live p ∧ p ≠ A ∧ p ≠ C ∧ p ≠ B ∧ p ≠ D) (mrg (mrg E (arcN X A) (arcN X C)) (arcN X B) (arcN X D)) (fun p => if o p = C then o D else if o p = D then o C else o p) := h.pass hE hA hC hB hD hAC hBD hoA n2 (fun e => n3 e.symm) n5 n1 n4
end
end Go.Proofs.YtdelekkbkpldjaaDoor.Kn

/- A diagram whose crossings are some of another one's: it may be; and it is planar, if what is left is: plain mathematics. -/
namespace Go.Proofs.YtdelekkbkpldjaaDoor.Kn

/- the k-th place where a strand comes in -/
def ip (Y : List Cr) (k : Nat) : Pl := (k / 2, if k % 2 = 0 then 0 else over (cr Y (k / 2)).p)
theorem over_lt (p : Bool) : over p < 4 := by cases p <;> decide
theorem over_pos (p : Bool) : over p ≠ 0 := by cases p <;> decide
theorem ip_pl {Y : List Cr} {k : Nat} (hk : k < nArcs Y) : isPl Y (ip Y k) := by
  unfold nArcs at hk
  refine ⟨by show k / 2 < _; omega, ?_⟩
  show (if k % 2 = 0 then 0 else over (cr Y (k / 2)).p) < 4
  split
  · omega
  · exact over_lt _
theorem ip_cm (Y : List Cr) (k : Nat) : cm Y (ip Y k) = true := by
  unfold cm ip Cr.comes
  simp only
  split <;> simp
theorem ip_inj {Y : List Cr} {j k : Nat} (h : ip Y j = ip Y k) : j = k := by
  unfold ip at h
  injection h with h1 h2
  rw [h1] at h2
  by_cases c : j % 2 = 0 <;> by_cases d : k % 2 = 0
  · omega
  · rw [if_pos c, if_neg d] at h2; exact absurd h2.symm (over_pos _)
  · rw [if_neg c, if_pos d] at h2; exact absurd h2 (over_pos _)
  · omega
theorem ip_all {Y : List Cr} {p : Pl} (hp : isPl Y p) (hc : cm Y p = true) : ∃ k, k < nArcs Y ∧ ip Y k = p := by
  obtain ⟨c, s⟩ := p
  obtain ⟨h1, h2⟩ := hp
  simp only at h1 h2
  unfold cm Cr.comes at hc
  simp only [Bool.or_eq_true, decide_eq_true_eq] at hc
  unfold nArcs ip
  rcases hc with rfl | hs
  · exact ⟨2 * c, by omega, by rw [show 2 * c / 2 = c by omega, if_pos (by omega)]⟩
  · exact ⟨2 * c + 1, by omega, by rw [show (2 * c + 1) / 2 = c by omega, if_neg (by omega), hs]⟩

structure Cut (X Y : List Cr) (f g : Nat → Nat) (live : Pl → Prop) (E : Nat → Nat → Prop) (o : Pl → Pl) : Prop where
  ok : Ok X
  mono : ∀ i j, i < j → j < Y.length → f i < f j
  lt : ∀ i, i < Y.length → f i < X.length
  alive : ∀ p, isPl X p → (live p ↔ ∃ i, i < Y.length ∧ f i = p.1)
  cr_ : ∀ i, i < Y.length → cr Y i = (cr X (f i)).ren g
  tied : Tied X live E o
  eqv : Equivalence E
  same : ∀ p q, live p → live q → (g (arcN X p) = g (arcN X q) ↔ E (arcN X p) (arcN X q))
  rng : ∀ p, live p → 1 ≤ g (arcN X p) ∧ g (arcN X p) ≤ nArcs Y
section
variable {X Y : List Cr} {f g : Nat → Nat} {live : Pl → Prop} {E : Nat → Nat → Prop} {o : Pl → Pl}
theorem Cut.inj (h : Cut X Y f g live E o) {i j : Nat} (hi : i < Y.length) (hj : j < Y.length) (e : f i = f j) : i = j := by
  rcases Nat.lt_trichotomy i j with c | c | c
  · have := h.mono i j c hj; omega
  · exact c
  · have := h.mono j i c hi; omega
theorem Cut.pl (h : Cut X Y f g live E o) {p : Pl} (hp : isPl Y p) : isPl X (onP f p) := ⟨h.lt _ hp.1, hp.2⟩
theorem Cut.liv (h : Cut X Y f g live E o) {p : Pl} (hp : isPl Y p) : live (onP f p) := (h.alive _ (h.pl hp)).2 ⟨p.1, hp.1, rfl⟩
theorem Cut.back (h : Cut X Y f g live E o) {q : Pl} (hq : live q) : ∃ p, isPl Y p ∧ onP f p = q := by
  obtain ⟨i, hi, e⟩ := (h.alive q (h.tied.isP q hq)).1 hq
  exact ⟨(i, q.2), ⟨hi, (h.tied.isP q hq).2⟩, by unfold onP; rw [e]⟩
theorem Cut.at_ (h : Cut X Y f g live E o) {p : Pl} (hp : isPl Y p) : at_ Y p = (g (arcN X (onP f p)) : Nat) := by
  unfold Kn.at_ arcN Kn.at_ onP
  rw [h.cr_ _ hp.1, ren_arc]
theorem Cut.arcN (h : Cut X Y f g live E o) {p : Pl} (hp : isPl Y p) : arcN Y p = g (arcN X (onP f p)) := by unfold Kn.arcN; rw [h.at_ hp]; rfl
theorem Cut.cm (h : Cut X Y f g live E o) {p : Pl} (hp : isPl Y p) : cm Y p = cm X (onP f p) := by
  unfold Kn.cm onP
  rw [h.cr_ _ hp.1]; rfl
theorem Cut.onP_inj (h : Cut X Y f g live E o) {p q : Pl} (hp : isPl Y p) (hq : isPl Y q) (e : onP f p = onP f q) : p = q := by
  obtain ⟨a, b⟩ := p
  obtain ⟨c, d⟩ := q
  unfold onP at e
  injection e with e1 e2
  simp only at e1 e2
  have e3 : a = c := h.inj hp.1 hq.1 e1
  rw [e3, e2]
theorem Cut.uniq (h : Cut X Y f g live E o) {p q : Pl} (hp : isPl Y p) (hq : isPl Y q) (hc : Kn.cm Y p = Kn.cm Y q) (ha : Kn.at_ Y p = Kn.at_ Y q) : p = q := by
  rw [h.at_ hp, h.at_ hq, Int.ofNat_inj] at ha
  exact h.onP_inj hp hq (h.tied.un _ _ (h.liv hp) (h.liv hq) (by rw [← h.cm hp, ← h.cm hq, hc]) ((h.same _ _ (h.liv hp) (h.liv hq)).1 ha))
theorem Cut.okY (h : Cut X Y f g live E o) : Ok Y := by
  refine ok_mk (fun p hp => ?_) (fun io a ha => ?_) fun p q hp hq hc ha => h.uniq hp hq hc ha
  · rw [h.at_ hp]
    have := h.rng _ (h.liv hp); omega
  · have hin : ∃ p, isPl Y p ∧ Kn.cm Y p = true ∧ Kn.at_ Y p = a := by
      have hr : ∀ k, k < nArcs Y → 1 ≤ Kn.arcN Y (ip Y k) ∧ Kn.arcN Y (ip Y k) ≤ nArcs Y := fun k hk => by
        rw [h.arcN (ip_pl hk)]; exact h.rng _ (h.liv (ip_pl hk))
      have P := inj_perm (l := List.range (nArcs Y)) List.nodup_range (f := fun k => Kn.arcN Y (ip Y k) - 1) (fun k hk => by
        rw [List.mem_range] at hk ⊢
        have := hr k hk; omega) fun j hj k hk e => by
        rw [List.mem_range] at hj hk
        have h1 := hr j hj
        have h2 := hr k hk
        have e : Kn.arcN Y (ip Y j) = Kn.arcN Y (ip Y k) := by omega
        rw [h.arcN (ip_pl hj), h.arcN (ip_pl hk)] at e
        refine ip_inj (h.uniq (ip_pl hj) (ip_pl hk) (by rw [ip_cm, ip_cm]) ?_)
        rw [h.at_ (ip_pl hj), h.at_ (ip_pl hk), e]
      obtain ⟨k, hk, e⟩ := List.mem_map.1 (P.mem_iff.2 (List.mem_range.2 (show a - 1 < nArcs Y by have := ha.1; have := ha.2; omega)))
      rw [List.mem_range] at hk
      refine ⟨ip Y k, ip_pl hk, ip_cm Y k, ?_⟩
      have h1 := hr k hk
      have := ha.1
      have e2 : g (Kn.arcN X (onP f (ip Y k))) = a := by rw [← h.arcN (ip_pl hk)]; omega
      rw [h.at_ (ip_pl hk), e2]
    obtain ⟨p, hp, hc, ha'⟩ := hin
    cases io with
    | true => exact ⟨p, hp, hc, ha'⟩
    | false =>
      obtain ⟨q, hq, e⟩ := h.back (h.tied.lv _ (h.liv hp))
      refine ⟨q, hq, ?_, ?_⟩
      · rw [h.cm hq, e, h.tied.op _ (h.liv hp), ← h.cm hp, hc]; rfl
      · rw [← ha', h.at_ hq, h.at_ hp, e, Int.ofNat_inj]
        exact ((h.same _ _ (h.liv hp) (h.tied.lv _ (h.liv hp))).2 (h.tied.eq _ (h.liv hp))).symm
theorem Cut.other (h : Cut X Y f g live E o) {p : Pl} (hp : isPl Y p) : onP f (other Y p) = o (onP f p) := by
  have hY := h.okY
  obtain ⟨q, hq, e⟩ := h.back (h.tied.lv _ (h.liv hp))
  rw [← e]
  congr 1
  refine h.uniq (hY.isPl_other hp) hq ?_ ?_
  · rw [hY.cm_other hp, h.cm hq, e, h.tied.op _ (h.liv hp), h.cm hp]
  · rw [← hY.arcN_eq (hY.isPl_other hp), hY.arc_other hp, h.at_ hq, h.arcN hp, e, Int.ofNat_inj]
    exact (h.same _ _ (h.liv hp) (h.tied.lv _ (h.liv hp))).2 (h.tied.eq _ (h.liv hp))
end

/- classes among more numbers, each new one of which is one by itself -/
theorem cl_emb {N M : Nat} {k : Nat → Nat} (hm : ∀ i j, i < j → j < M → k i < k j) (hk : ∀ i, i < M → k i < N) {R R' : Nat → Nat → Prop} (h : ∀ i j, i < M → j < M → (R (k i) (k j) ↔ R' i j)) (hs : ∀ y, (∀ i, i < M → k i ≠ y) → ∀ x, R x y → x = y) (hR : Equivalence R) :
    cl N R + M = cl M R' + N := by
  have hinj : ∀ x ∈ List.range M, ∀ y ∈ List.range M, k x = k y → x = y := fun x hx y hy e => by
    rw [List.mem_range] at hx hy
    rcases Nat.lt_trichotomy x y with c | c | c
    · have := hm x y c hy; omega
    · exact c
    · have := hm y x c hx; omega
  have hn1 := map_nodup (l := List.range M) List.nodup_range hinj
  have hn2 : ((List.range N).filter fun y => !((List.range M).map k).contains y).Nodup := List.nodup_range.sublist List.filter_sublist
  have P : ((List.range M).map k ++ (List.range N).filter fun y => !((List.range M).map k).contains y).Perm (List.range N) := by
    refine (List.perm_ext_iff_of_nodup ?_ List.nodup_range).2 fun y => ?_
    · refine List.nodup_append.2 ⟨hn1, hn2, fun a ha b hb e => ?_⟩
      subst e
      rw [List.mem_filter] at hb
      have := hb.2
      simp only [Bool.not_eq_true', List.contains_eq_mem, decide_eq_false_iff_not] at this
      exact this ha
    · rw [List.mem_append, List.mem_filter, List.mem_range]
      constructor
      · rintro (k1 | k1)
        · obtain ⟨i, hi, rfl⟩ := List.mem_map.1 k1
          exact hk i (List.mem_range.1 hi)
        · exact k1.1
      · intro hy
        by_cases c : y ∈ (List.range M).map k
        · exact .inl c
        · exact .inr ⟨hy, by simpa using c⟩
  have hl := P.length_eq
  rw [List.length_append, List.length_map, List.length_range, List.length_range] at hl
  have hc := P.countP_eq fun d => tr (Least R d)
  rw [List.countP_append, List.countP_map] at hc
  have h1 : (List.range M).countP ((fun d => tr (Least R d)) ∘ k) = cl M R' := by
    unfold cl
    refine countP_congr' fun z hz => tr_congr ?_
    rw [List.mem_range] at hz
    constructor
    · intro l e he r
      exact l (k e) (hm e z he hz) ((h e z (by omega) hz).2 r)
    · intro l e he r
      by_cases c : ∃ i, i < M ∧ k i = e
      · obtain ⟨i, hi, rfl⟩ := c
        have : i < z := by
          rcases Nat.lt_trichotomy i z with c | c | c
          · exact c
          · subst c; omega
          · have := hm z i c hi; omega
        exact l i this ((h i z hi hz).1 r)
      · have := hs e (fun i hi he => c ⟨i, hi, he⟩) (k z) (hR.symm r)
        omega
  have h2 : ((List.range N).filter fun y => !((List.range M).map k).contains y).countP (fun d => tr (Least R d)) = ((List.range N).filter fun y => !((List.range M).map k).contains y).length := by
    refine List.countP_eq_length.2 fun y hy => tr_iff.2 fun e he r => ?_
    rw [List.mem_filter] at hy
    have := hy.2
    simp only [Bool.not_eq_true', List.contains_eq_mem, decide_eq_false_iff_not] at this
    have := hs y (fun i hi c => this (List.mem_map.2 ⟨i, List.mem_range.2 hi, c⟩)) e r
    omega
  rw [h1, h2] at hc
  show (List.range N).countP _ + M = _
  omega
section
variable {N : Nat} {σ : Nat → Nat}
theorem Dis.len : ∀ {es : Prs}, Good N es → Dis es → cl N (Orb (mate es)) + es.length = N
  | [], _, _ => by
    show cl N (Orb fun x => x) + 0 = N
    have : cl N (Orb fun x : Nat => x) = cl N (fun x y => x = y) := cl_congr fun x y => (com_id_nil (x := x) (y := y))
    rw [this]
    unfold cl
    have hl : (List.range N).countP (fun d => tr (Least (fun x y : Nat => x = y) d)) = (List.range N).length := List.countP_eq_length.2 fun y _ => tr_iff.2 fun e he (r : e = y) => by omega
    rw [hl, List.length_range]; rfl
  | e :: es, hg, hd => by
    have i := Dis.len hg.tail hd.tail
    obtain ⟨h1, h2, h3⟩ := hg e (by simp)
    have hp : Pm N (phi (fun x => x) es) := phi_pm ⟨fun _ h => h, fun _ _ => rfl, fun _ _ h => h⟩ hg.tail
    have hno : ¬ Orb (mate es) e.1 e.2 := by
      rintro ⟨n, hn⟩
      have : ∀ n, it (mate es) n e.1 = e.1 := fun n => by
        induction n with
        | zero => rfl
        | succ n ih => rw [it, ih, mate_out hd.out.1]
      rw [this] at hn
      exact h3 hn
    have j := cl_join (f := mate es) hp h1 h2 hno
    show cl N (Orb fun x => swp e.1 e.2 (mate es x)) + (es.length + 1) = N
    omega
theorem Flat.same (h : Pm N σ) {es es' : Prs} (hg : Good N es) (hd : Dis es) (hg' : Good N es') (hd' : Dis es') (hm : ∀ x, mate es x = mate es' x) (hf : Flat N σ es) : Flat N σ es' := by
  have e : mate es = mate es' := funext hm
  have h1 := Dis.len hg hd
  have h2 := Dis.len hg' hd'
  rw [e] at h1
  refine hf.congr h hm (by omega) (fun d he => ?_) fun d he => ?_
  · rw [← (mate_pair hd he).1, hm]; exact com_mate h es' d.1
  · rw [← (mate_pair hd' he).1, ← hm]; exact com_mate h es d.1
end
end Go.Proofs.YtdelekkbkpldjaaDoor.Kn

/- A diagram whose crossings are some of another one's is planar, if what is left is: plain mathematics. -/
namespace Go.Proofs.YtdelekkbkpldjaaDoor.Kn

def kP (f : Nat → Nat) (z : Nat) : Nat := f (z / 4) * 4 + z % 4
theorem kP_pk {f : Nat → Nat} {p : Pl} (hp : p.2 < 4) : kP f (pk p) = pk (onP f p) := by
  unfold kP pk onP
  simp only
  rw [show (p.1 * 4 + p.2) / 4 = p.1 by omega, show (p.1 * 4 + p.2) % 4 = p.2 by omega]
theorem mate_map {M : Nat} {k : Nat → Nat} (hk : ∀ i j, i < M → j < M → k i = k j → i = j) : ∀ {es : Prs}, Good M es → ∀ {z : Nat}, z < M → mate (es.map fun e => (k e.1, k e.2)) (k z) = k (mate es z)
  | [], _, _, _ => rfl
  | e :: es, hg, z, hz => by
    have i := mate_map hk hg.tail hz
    have hw := hg.tail.mate_lt hz
    obtain ⟨h1, h2, _⟩ := hg e (by simp)
    show swp (k e.1) (k e.2) (mate (es.map fun e => (k e.1, k e.2)) (k z)) = k (swp e.1 e.2 (mate es z))
    rw [i]
    by_cases c : mate es z = e.1
    · rw [c, swp_a, swp_a]
    · by_cases d : mate es z = e.2
      · rw [d, swp_b, swp_b]
      · rw [swp_ne c d, swp_ne (fun e => c (hk _ _ hw h1 e)) fun e => d (hk _ _ hw h2 e)]
theorem orb_emb {M : Nat} {k : Nat → Nat} (hk : ∀ i j, i < M → j < M → k i = k j → i = j) {φ φ' : Nat → Nat} (hl : ∀ z, z < M → φ' z < M) (he : ∀ z, z < M → φ (k z) = k (φ' z)) {i j : Nat} (hi : i < M) (hj : j < M) : Orb φ (k i) (k j) ↔ Orb φ' i j := by
  have key : ∀ n, it φ' n i < M ∧ it φ n (k i) = k (it φ' n i) := fun n => by
    induction n with
    | zero => exact ⟨hi, rfl⟩
    | succ n ih => exact ⟨hl _ ih.1, by rw [it, ih.2, he _ ih.1]; rfl⟩
  constructor
  · rintro ⟨n, hn⟩
    rw [(key n).2] at hn
    exact ⟨n, hk _ _ (key n).1 hj hn⟩
  · rintro ⟨n, hn⟩
    exact ⟨n, by rw [(key n).2, hn]⟩
theorem orb_fix {N : Nat} {φ : Nat → Nat} (h : Pm N φ) {x y : Nat} (hy : φ y = y) (k : Orb φ x y) : x = y := by
  obtain ⟨n, hn⟩ := h.symm k
  have : ∀ n, it φ n y = y := fun n => by
    induction n with
    | zero => rfl
    | succ n ih => rw [it, ih, hy]
  rw [this] at hn
  exact hn.symm
section
variable {X Y : List Cr} {f g : Nat → Nat} {live : Pl → Prop} {E : Nat → Nat → Prop} {o : Pl → Pl}
theorem Cut.planar (h : Cut X Y f g live E o) {σ : Nat → Nat} {es : Prs} (hσ : Pm (4 * X.length) σ) (hg : Good (4 * X.length) es) (hd : Dis es) (hf : Flat (4 * X.length) σ es)
    (m1 : ∀ p, live p → mate es (pk p) = pk (o p)) (m2 : ∀ z, (∀ p, live p → pk p ≠ z) → mate es z = z)
    (s1 : ∀ p, live p → σ (pk p) = sig X.length (pk p)) (s2 : ∀ z, (∀ p, live p → pk p ≠ z) → σ z = z) : planarB Y = true := by
  have hY := h.okY
  have km : ∀ i j, i < j → j < 4 * Y.length → kP f i < kP f j := fun i j hij hj => by
    unfold kP
    by_cases c : i / 4 = j / 4
    · rw [c]; omega
    · have := h.mono (i / 4) (j / 4) (by omega) (by omega)
      omega
  have ki : ∀ i j, i < 4 * Y.length → j < 4 * Y.length → kP f i = kP f j → i = j := fun i j hi hj e => by
    rcases Nat.lt_trichotomy i j with c | c | c
    · have := km i j c hj; omega
    · exact c
    · have := km j i c hi; omega
  have kl : ∀ i, i < 4 * Y.length → kP f i < 4 * X.length := fun i hi => by
    have := h.lt (i / 4) (by omega)
    unfold kP; omega
  have kpl : ∀ i, i < 4 * Y.length → kP f i = pk (onP f (Kn.pl i)) := fun i _ => rfl
  have klive : ∀ i, i < 4 * Y.length → live (onP f (Kn.pl i)) := fun i hi => h.liv (isPl_pl hi)
  have kout : ∀ y, (∀ i, i < 4 * Y.length → kP f i ≠ y) → ∀ p, live p → pk p ≠ y := fun y hy p hp e => by
    obtain ⟨q, hq, rfl⟩ := h.back hp
    refine hy (pk q) (pk_lt hq) ?_
    rw [kP_pk hq.2, e]
  -- the pairs of the new one, among the old numbers
  have G := hY.ens_good
  have D := hY.ens_dis
  have g2 : Good (4 * X.length) ((ens Y).map fun e => (kP f e.1, kP f e.2)) := fun e he => by
    obtain ⟨d, hd, rfl⟩ := List.mem_map.1 he
    obtain ⟨h1, h2, h3⟩ := G d hd
    exact ⟨kl _ h1, kl _ h2, fun c => h3 (ki _ _ h1 h2 c)⟩
  have d2 : Dis ((ens Y).map fun e => (kP f e.1, kP f e.2)) := by
    unfold Dis at D ⊢
    rw [List.pairwise_map]
    refine List.Pairwise.imp_of_mem (fun {a b} ha hb k => ?_) D
    obtain ⟨a1, a2, _⟩ := G a ha
    obtain ⟨b1, b2, _⟩ := G b hb
    exact ⟨fun c => k.1 (ki _ _ a1 b1 c), fun c => k.2.1 (ki _ _ a1 b2 c), fun c => k.2.2.1 (ki _ _ a2 b1 c), fun c => k.2.2.2 (ki _ _ a2 b2 c)⟩
  have mo : ∀ y, (∀ i, i < 4 * Y.length → kP f i ≠ y) → mate ((ens Y).map fun e => (kP f e.1, kP f e.2)) y = y := fun y hy => mate_out (by
    rintro ⟨e, he, k⟩
    obtain ⟨d, hd, rfl⟩ := List.mem_map.1 he
    obtain ⟨h1, h2, h3⟩ := G d hd
    rcases k with k | k
    · exact hy _ h1 k.symm
    · exact hy _ h2 k.symm)
  have mi : ∀ z, z < 4 * Y.length → mate ((ens Y).map fun e => (kP f e.1, kP f e.2)) (kP f z) = kP f (mate (ens Y) z) := fun z hz => mate_map ki G hz
  have mm : ∀ y, mate es y = mate ((ens Y).map fun e => (kP f e.1, kP f e.2)) y := fun y => by
    by_cases c : ∃ i, i < 4 * Y.length ∧ kP f i = y
    · obtain ⟨i, hi, rfl⟩ := c
      rw [mi i hi]
      have hp := isPl_pl (X := Y) hi
      have e1 : mate (ens Y) i = pk (Kn.other Y (Kn.pl i)) := by
        have := hY.mate_pk hp
        rwa [show pk (Kn.pl i) = i by unfold pk Kn.pl; simp only; omega] at this
      rw [e1, kP_pk (hY.isPl_other hp).2, h.other hp, kpl i hi, m1 _ (klive i hi)]
    · have c' : ∀ i, i < 4 * Y.length → kP f i ≠ y := fun i hi e => c ⟨i, hi, e⟩
      rw [mo y c', m2 y (kout y c')]
  have F := hf.same hσ hg hd g2 d2 mm
  have se : ∀ z, z < 4 * Y.length → σ (kP f z) = kP f (sig Y.length z) := fun z hz => by
    rw [kpl z hz, s1 _ (klive z hz), ← kpl z hz]
    have h1 := kl z hz
    unfold sig
    rw [if_pos h1, if_pos hz]
    unfold kP
    rw [show (f (z / 4) * 4 + z % 4) / 4 = f (z / 4) by omega, show (f (z / 4) * 4 + z % 4) % 4 = z % 4 by omega, show (z / 4 * 4 + (z % 4 + 3) % 4) / 4 = z / 4 by omega, show (z / 4 * 4 + (z % 4 + 3) % 4) % 4 = (z % 4 + 3) % 4 by omega]
  have so : ∀ y, (∀ i, i < 4 * Y.length → kP f i ≠ y) → σ y = y := fun y hy => s2 y (kout y hy)
  have sl := (sig_pm Y.length).lt
  have hφ := phi_pm hσ g2
  have cF := cl_emb (k := kP f) km kl (R := Orb (phi σ ((ens Y).map fun e => (kP f e.1, kP f e.2)))) (R' := Orb (fac Y)) (fun i j hi hj =>
      orb_emb ki (φ' := fac Y) hY.fac_pm.lt (fun z hz => by
        show mate _ (σ (kP f z)) = kP f (mate (ens Y) (sig Y.length z))
        rw [se z hz, mi _ (sl z hz)]) hi hj)
    (fun y hy x r => orb_fix hφ (by
      show mate _ (σ y) = y
      rw [so y hy, mo y hy]) r) hφ.equiv
  have cV := cl_emb (k := kP f) km kl (R := Orb σ) (R' := Orb (sig Y.length)) (fun i j hi hj => orb_emb ki sl se hi hj)
    (fun y hy x r => orb_fix hσ (so y hy) r) hσ.equiv
  -- what hangs together
  have hE := com_equiv hσ ((ens Y).map fun e => (kP f e.1, kP f e.2))
  have hP := com_equiv (sig_pm Y.length) (ens Y)
  have hS : Equivalence (fun x y => x = y ∨ ∃ i j, i < 4 * Y.length ∧ j < 4 * Y.length ∧ kP f i = x ∧ kP f j = y ∧ pie Y i j) := by
    refine ⟨fun x => .inl rfl, fun {x y} k => ?_, fun {x y z} k l => ?_⟩
    · rcases k with k | ⟨i, j, h1, h2, h3, h4, h5⟩
      · exact .inl k.symm
      · exact .inr ⟨j, i, h2, h1, h4, h3, hP.symm h5⟩
    · rcases k with k | ⟨i, j, h1, h2, h3, h4, h5⟩
      · rw [k]; exact l
      · rcases l with l | ⟨i', j', k1, k2, k3, k4, k5⟩
        · rw [← l]; exact .inr ⟨i, j, h1, h2, h3, h4, h5⟩
        · have := ki j i' h2 k1 (h4.trans k3.symm)
          subst this
          exact .inr ⟨i, j', h1, k2, h3, k4, hP.trans h5 k5⟩
  have down : ∀ {x y}, com σ ((ens Y).map fun e => (kP f e.1, kP f e.2)) x y → x = y ∨ ∃ i j, i < 4 * Y.length ∧ j < 4 * Y.length ∧ kP f i = x ∧ kP f j = y ∧ pie Y i j := fun {x y} k => by
    refine com_least hS (fun z => ?_) (fun e he => ?_) k
    · by_cases c : ∃ i, i < 4 * Y.length ∧ kP f i = z
      · obtain ⟨i, hi, rfl⟩ := c
        exact .inr ⟨i, sig Y.length i, hi, sl i hi, rfl, (se i hi).symm, com_sub (Orb.one _ i)⟩
      · exact .inl (so z fun i hi e => c ⟨i, hi, e⟩).symm
    · obtain ⟨d, hd, rfl⟩ := List.mem_map.1 he
      obtain ⟨h1, h2, _⟩ := G d hd
      exact .inr ⟨d.1, d.2, h1, h2, rfl, rfl, com_pair (sig_pm Y.length) hd⟩
  have up : ∀ {i j}, pie Y i j → i < 4 * Y.length → j < 4 * Y.length → com σ ((ens Y).map fun e => (kP f e.1, kP f e.2)) (kP f i) (kP f j) := fun {i j} k hi hj => by
    have hT : Equivalence (fun i j => com σ ((ens Y).map fun e => (kP f e.1, kP f e.2)) (kP f i) (kP f j)) := ⟨fun x => hE.refl _, fun k => hE.symm k, fun k l => hE.trans k l⟩
    refine com_least hT (fun z => ?_) (fun e he => ?_) k
    · by_cases c : z < 4 * Y.length
      · show com σ _ (kP f z) (kP f (sig Y.length z))
        rw [← se z c]; exact com_sub (Orb.one _ _)
      · rw [(sig_pm Y.length).out z (by omega)]; exact hE.refl _
    · exact com_pair hσ (e := (kP f e.1, kP f e.2)) (List.mem_map.2 ⟨e, he, rfl⟩)
  have cC := cl_emb (k := kP f) km kl (R := com σ ((ens Y).map fun e => (kP f e.1, kP f e.2))) (R' := pie Y) (fun i j hi hj => by
      constructor
      · intro k
        rcases down k with k | ⟨i', j', h1, h2, h3, h4, h5⟩
        · rw [ki i j hi hj k]; exact hP.refl _
        · rw [← ki i' i h1 hi h3, ← ki j' j h2 hj h4]; exact h5
      · exact fun k => up k hi hj)
    (fun y hy x r => by
      rcases down r with k | ⟨i, j, _, h2, _, h4, _⟩
      · exact k
      · exact absurd h4 (hy j h2)) hE
  unfold Flat at F
  rw [List.length_map] at F
  have hl : (ens Y).length = nArcs Y := by unfold ens; rw [List.length_map, arcs_length]
  have a1 := hY.cl_faces
  have a2 := hY.cl_pieces
  have a3 := cl_sig Y.length
  rw [hY.planar_iff]
  unfold nArcs at hl
  omega
end
end Go.Proofs.YtdelekkbkpldjaaDoor.Kn

/- A diagram without some crossings, whose arcs are numbered anew: plain mathematics. -/
namespace Go.Proofs.YtdelekkbkpldjaaDoor.Kn

structure Rep (f : Nat → Nat) (E : Nat → Nat → Prop) : Prop where
  iff : ∀ a b, f a = f b ↔ E a b
  le : ∀ a, f a ≤ a
  idem : ∀ a, f (f a) = f a
  pos : ∀ a, 1 ≤ a → 1 ≤ f a
/- two classes made one: the lower number is kept -/
def joinF (f : Nat → Nat) (u v a : Nat) : Nat := if f a = max (f u) (f v) then min (f u) (f v) else f a
theorem Rep.id : Rep (fun a => a) (com (fun x => x) []) := ⟨fun _ _ => com_id_nil.symm, fun _ => Nat.le_refl _, fun _ => rfl, fun _ h => h⟩
theorem Rep.join {f : Nat → Nat} {E : Nat → Nat → Prop} (h : Rep f E) {u v : Nat} (hu : 1 ≤ u) (hv : 1 ≤ v) : Rep (joinF f u v) (mrg E u v) := by
  have p1 := h.pos u hu
  have p2 := h.pos v hv
  refine ⟨fun a b => ?_, fun a => ?_, fun a => ?_, fun a ha => ?_⟩
  · have key : joinF f u v a = joinF f u v b ↔ f a = f b ∨ (f a = f u ∧ f v = f b) ∨ (f a = f v ∧ f u = f b) := by
      unfold joinF
      by_cases c : f a = max (f u) (f v) <;> by_cases d : f b = max (f u) (f v)
      · rw [if_pos c, if_pos d]; omega
      · rw [if_pos c, if_neg d]; omega
      · rw [if_neg c, if_pos d]; omega
      · rw [if_neg c, if_neg d]; omega
    rw [key, h.iff, h.iff, h.iff, h.iff, h.iff]; rfl
  · unfold joinF
    have := h.le a
    split <;> omega
  · have i1 := h.idem a
    have i2 := h.idem u
    have i3 := h.idem v
    have m : min (f u) (f v) = f u ∨ min (f u) (f v) = f v := by omega
    unfold joinF
    by_cases c : f a = max (f u) (f v)
    · rw [if_pos c]
      rcases m with m | m
      · rw [m, i2]; split <;> omega
      · rw [m, i3]; split <;> omega
    · rw [if_neg c, i1, if_neg c]
  · unfold joinF
    have := h.pos a ha
    split <;> omega

def kept (n : Nat) (gone : Nat → Bool) : List Nat := (List.range n).filter fun c => !gone c
def leftB (X : List Cr) (f : Nat → Nat) (gone : Nat → Bool) (r : Nat) : Bool := (kept X.length gone).any fun c => (List.range 4).any fun s => decide (f (arcN X (c, s)) = r)
def rootB (X : List Cr) (f : Nat → Nat) (gone : Nat → Bool) (r : Nat) : Bool := decide (f r = r) && leftB X f gone r
def numF (X : List Cr) (f : Nat → Nat) (gone : Nat → Bool) (v : Nat) : Nat := (List.range v).countP fun a => rootB X f gone (a + 1)
def withL (X : List Cr) (f : Nat → Nat) (gone : Nat → Bool) : List Cr := (kept X.length gone).map fun c => (cr X c).ren fun a => numF X f gone (f a)
def ringN (X : List Cr) (f : Nat → Nat) (gone : Nat → Bool) : Nat := (List.range (nArcs X)).countP fun a => decide (f (a + 1) = a + 1) && !leftB X f gone (a + 1)
theorem mem_kept {n c : Nat} {gone : Nat → Bool} : c ∈ kept n gone ↔ c < n ∧ gone c = false := by unfold kept; simp
theorem leftB_iff {X : List Cr} {f : Nat → Nat} {gone : Nat → Bool} {r : Nat} : leftB X f gone r = true ↔ ∃ p, isPl X p ∧ gone p.1 = false ∧ f (arcN X p) = r := by
  unfold leftB
  simp only [List.any_eq_true, mem_kept, List.mem_range, decide_eq_true_eq]
  constructor
  · rintro ⟨c, ⟨h1, h2⟩, s, h3, h4⟩; exact ⟨(c, s), ⟨h1, h3⟩, h2, h4⟩
  · rintro ⟨p, ⟨h1, h3⟩, h2, h4⟩; exact ⟨p.1, ⟨h1, h2⟩, p.2, h3, h4⟩
section
variable {X : List Cr} {f : Nat → Nat} {gone : Nat → Bool}
theorem numF_succ (v : Nat) : numF X f gone (v + 1) = numF X f gone v + if rootB X f gone (v + 1) then 1 else 0 := by
  unfold numF
  rw [List.range_succ, List.countP_append, List.countP_cons, List.countP_nil]; simp
theorem numF_mono {v : Nat} : ∀ {w : Nat}, v ≤ w → numF X f gone v ≤ numF X f gone w
  | 0, h => by rw [show v = 0 by omega]; exact Nat.le_refl _
  | w + 1, h => by
    by_cases c : v = w + 1
    · rw [c]; exact Nat.le_refl _
    · have := numF_mono (v := v) (w := w) (by omega)
      rw [numF_succ]; omega
theorem numF_lt {v w : Nat} (h : v < w) (hw : rootB X f gone w = true) : numF X f gone v < numF X f gone w := by
  obtain ⟨u, rfl⟩ : ∃ u, w = u + 1 := ⟨w - 1, by omega⟩
  have := numF_mono (X := X) (f := f) (gone := gone) (v := v) (w := u) (by omega)
  rw [numF_succ, if_pos hw]; omega
theorem withL_len : (withL X f gone).length = (kept X.length gone).length := by unfold withL; rw [List.length_map]
theorem kept_lt {i : Nat} (h : i < (kept X.length gone).length) : (kept X.length gone).getD i 0 < X.length ∧ gone ((kept X.length gone).getD i 0) = false := by
  rw [List.getD_eq_getElem?_getD, List.getElem?_eq_getElem h]
  exact mem_kept.1 (List.getElem_mem h)
theorem withL_cr {i : Nat} (h : i < (kept X.length gone).length) : cr (withL X f gone) i = (cr X ((kept X.length gone).getD i 0)).ren fun a => numF X f gone (f a) := by
  have e1 : (kept X.length gone).getD i 0 = (kept X.length gone)[i] := by rw [List.getD_eq_getElem?_getD, List.getElem?_eq_getElem h]; rfl
  rw [e1]
  show (withL X f gone).getD i default = _
  unfold withL
  rw [List.getD_eq_getElem?_getD, List.getElem?_map, List.getElem?_eq_getElem h]; rfl
theorem kept_mono {n : Nat} {i j : Nat} (hij : i < j) (hj : j < (kept n gone).length) : (kept n gone).getD i 0 < (kept n gone).getD j 0 := by
  have h : (kept n gone).Pairwise (· < ·) := List.Pairwise.filter _ List.pairwise_lt_range
  rw [List.getD_eq_getElem?_getD, List.getElem?_eq_getElem (by omega), List.getD_eq_getElem?_getD, List.getElem?_eq_getElem hj]
  exact List.pairwise_iff_getElem.1 h i j (by omega) hj hij
theorem kept_at {n c : Nat} (h : c < n) (hg : gone c = false) : ∃ i, i < (kept n gone).length ∧ (kept n gone).getD i 0 = c := by
  obtain ⟨i, hi, e⟩ := List.mem_iff_getElem.1 (mem_kept.2 ⟨h, hg⟩)
  exact ⟨i, hi, by rw [List.getD_eq_getElem?_getD, List.getElem?_eq_getElem hi]; exact e⟩
theorem with_cut (hX : Ok X) {E : Nat → Nat → Prop} (hR : Rep f E) (hE : Equivalence E) {live : Pl → Prop} {o : Pl → Pl} (hT : Tied X live E o) (hl : ∀ p, live p ↔ isPl X p ∧ gone p.1 = false) :
    Cut X (withL X f gone) (fun i => (kept X.length gone).getD i 0) (fun a => numF X f gone (f a)) live E o := by
  have root : ∀ p, live p → rootB X f gone (f (arcN X p)) = true := fun p hp => by
    unfold rootB
    rw [Bool.and_eq_true]
    exact ⟨decide_eq_true (hR.idem _), leftB_iff.2 ⟨p, ((hl p).1 hp).1, ((hl p).1 hp).2, rfl⟩⟩
  have arcOf : ∀ p, live p → 1 ≤ f (arcN X p) ∧ f (arcN X p) ≤ nArcs X := fun p hp => by
    have := hX.isArc (hT.isP p hp)
    have h1 := hR.pos _ this.1
    have h2 := hR.le (arcN X p)
    have := this.2
    omega
  refine ⟨hX, fun i j hij hj => kept_mono hij (withL_len ▸ hj), fun i hi => (kept_lt (withL_len ▸ hi)).1, fun p hp => ?_, fun i hi => withL_cr (withL_len ▸ hi), hT, hE, fun p q hp hq => ?_, fun p hp => ?_⟩
  · rw [hl p]
    constructor
    · rintro ⟨h1, h2⟩
      obtain ⟨i, hi, e⟩ := kept_at h1.1 h2
      exact ⟨i, withL_len ▸ hi, e⟩
    · rintro ⟨i, hi, e⟩
      exact ⟨hp, by rw [← e]; exact (kept_lt (withL_len ▸ hi)).2⟩
  · rw [← hR.iff]
    constructor
    · intro e
      rcases Nat.lt_trichotomy (f (arcN X p)) (f (arcN X q)) with c | c | c
      · have := numF_lt c (root q hq); omega
      · exact c
      · have := numF_lt c (root p hp); omega
    · intro e; show numF X f gone _ = numF X f gone _; rw [e]
  · have a1 := arcOf p hp
    have h0 := numF_lt (v := 0) (by omega) (root p hp)
    refine ⟨by show 1 ≤ numF X f gone _; omega, ?_⟩
    have h1 := numF_mono (X := X) (f := f) (gone := gone) a1.2
    refine Nat.le_trans h1 ?_
    unfold numF
    rw [List.countP_eq_length_filter]
    have hn : (((List.range (nArcs X)).filter fun a => rootB X f gone (a + 1)).map (· + 1)).Nodup :=
      map_nodup (List.nodup_range.sublist List.filter_sublist) fun x _ y _ e => by
        have e : x + 1 = y + 1 := e
        omega
    have := nodup_le (m := (List.range (nArcs (withL X f gone))).map fun k => f (arcN X (onP (fun i => (kept X.length gone).getD i 0) (ip (withL X f gone) k)))) hn fun r hr => by
      obtain ⟨a, ha, rfl⟩ := List.mem_map.1 hr
      rw [List.mem_filter] at ha
      have hb := ha.2
      unfold rootB at hb
      rw [Bool.and_eq_true, leftB_iff] at hb
      obtain ⟨q, q1, q2, q3⟩ := hb.2
      have hq : live q := (hl q).2 ⟨q1, q2⟩
      have main : ∀ q, live q → cm X q = true → f (arcN X q) = a + 1 → a + 1 ∈ (List.range (nArcs (withL X f gone))).map fun k => f (arcN X (onP (fun i => (kept X.length gone).getD i 0) (ip (withL X f gone) k))) := fun q hq hc e => by
        obtain ⟨i, hi, ei⟩ := kept_at ((hl q).1 hq).1.1 ((hl q).1 hq).2
        have hp : isPl (withL X f gone) (i, q.2) := ⟨by rw [withL_len]; exact hi, ((hl q).1 hq).1.2⟩
        have e1 : cm (withL X f gone) (i, q.2) = true := by
          rw [← hc]; unfold cm; rw [withL_cr hi]; simp only; rw [ei]; rfl
        obtain ⟨k, hk, ek⟩ := ip_all hp e1
        refine List.mem_map.2 ⟨k, List.mem_range.2 hk, ?_⟩
        show f (arcN X (onP (fun i => (kept X.length gone).getD i 0) (ip (withL X f gone) k))) = a + 1
        rw [ek]
        show f (arcN X ((kept X.length gone).getD i 0, q.2)) = a + 1
        rw [ei]; exact e
      by_cases c : cm X q = true
      · exact main q hq c q3
      · refine main (o q) (hT.lv q hq) ?_ ?_
        · rw [hT.op q hq]; simpa using c
        · rw [(hR.iff _ _).2 (hE.symm (hT.eq q hq))]; exact q3
    rw [List.length_map, List.length_map, List.length_range] at this
    exact this
end
end Go.Proofs.YtdelekkbkpldjaaDoor.Kn

/- Strands as orbits; what is built of a walk; a planar knot's visits of a crossing lie at an odd and at an even place: plain mathematics. -/
namespace Go.Proofs.YtdelekkbkpldjaaDoor.Kn

section
variable {M : Nat} {f : Nat → Nat}
/- a ring, member by member -/
theorem ring_zero (f : Nat → Nat) {k : Nat} {seen : List Nat} {x : Nat} (h : 0 < (ring f k seen x).length) : (ring f k seen x)[0] = x := by
  cases k with
  | zero => simp [ring] at h
  | succ k =>
    by_cases c : x ∈ seen
    · simp [ring_seen f c] at h
    · simp [ring_new f c]
theorem ring_succ (f : Nat → Nat) : ∀ (k : Nat) {seen : List Nat} {x : Nat} {i : Nat} (h : i + 1 < (ring f k seen x).length), (ring f k seen x)[i + 1] = f ((ring f k seen x)[i]'(by omega))
  | 0, seen, x, i, h => by simp [ring] at h
  | k + 1, seen, x, i, h => by
    by_cases c : x ∈ seen
    · simp [ring_seen f c] at h
    · have e := ring_new f c (k := k)
      have h' : i < (ring f k (seen ++ [x]) (f x)).length := by
        have h2 := h
        rw [e] at h2; simpa using h2
      have e1 : (ring f (k + 1) seen x)[i + 1] = (ring f k (seen ++ [x]) (f x))[i] := by simp [e]
      rw [e1]
      cases i with
      | zero =>
        rw [ring_zero f h']
        simp [e]
      | succ i =>
        rw [ring_succ f k h']
        simp [e]
def Cyc (f : Nat → Nat) (r : List Nat) : Prop := ∀ i (h : i < r.length), r[(i + 1) % r.length]'(Nat.mod_lt _ (by omega)) = f r[i]
theorem ring_cyc (h : Pm M f) {k : Nat} {seen : List Nat} {x : Nat} (hn : seen.Nodup) (hs : ∀ y ∈ seen, y < M) (hc : ∀ y, f y ∈ seen → y ∈ seen) (hx : x < M) (hx' : x ∉ seen) (hk : M < k) : Cyc f (ring f k seen x) := by
  intro i hi
  by_cases c : i + 1 < (ring f k seen x).length
  · have e : (i + 1) % (ring f k seen x).length = i + 1 := Nat.mod_eq_of_lt c
    simp only [e]
    exact ring_succ f k c
  · have e0 : i + 1 = (ring f k seen x).length := by omega
    have e : (i + 1) % (ring f k seen x).length = 0 := by rw [e0, Nat.mod_self]
    simp only [e]
    have hm := fun y => ring_is h (y := y) hn hs hc hx hx' hk
    have hin : f ((ring f k seen x)[i]) ∈ ring f k seen x := (hm _).2 (((hm _).1 (List.getElem_mem hi)).trans (Orb.one f _))
    obtain ⟨j, hj, e1⟩ := List.getElem_of_mem hin
    cases j with
    | zero => exact e1
    | succ j =>
      rw [ring_succ f k hj] at e1
      have e2 := h.inj _ _ e1
      have hnd : (ring f k seen x).Nodup := (List.nodup_append.1 (ring_nodup f k (seen := seen) x hn)).2.1
      have := (List.getElem_inj hnd).1 e2
      omega
theorem rings_cyc (h : Pm M f) {N : Nat} (hN : M < N) : ∀ {ds seen : List Nat}, seen.Nodup → (∀ y ∈ seen, y < M) → (∀ y, f y ∈ seen → y ∈ seen) → (∀ d ∈ ds, d < M) → ∀ r ∈ rings f N seen ds, Cyc f r
  | [], seen, _, _, _, _, r, hr => by rw [rings_nil] at hr; cases hr
  | d :: ds, seen, hn, hs, hc, hd, r, hr => by
    have hd' : ∀ y ∈ ds, y < M := fun y hy => hd y (by simp [hy])
    by_cases c : d ∈ seen
    · rw [rings_seen f c] at hr
      exact rings_cyc h hN hn hs hc hd' r hr
    · have hdm := hd d (by simp)
      have hm := fun y => ring_is h (y := y) hn hs hc hdm c hN
      rw [rings_new f c] at hr
      rcases List.mem_cons.1 hr with rfl | hr
      · exact ring_cyc h hn hs hc hdm c hN
      · refine rings_cyc h hN (ring_nodup f N d hn) (fun y hy => ?_) (fun y hy => ?_) hd' r hr
        · rcases List.mem_append.1 hy with hy | hy
          · exact hs y hy
          · exact Orb.lt h hdm ((hm y).1 hy)
        · rcases List.mem_append.1 hy with hy | hy
          · exact List.mem_append.2 (.inl (hc y hy))
          · exact List.mem_append.2 (.inr ((hm y).2 (((hm _).1 hy).trans (h.back y))))
end

/- strands -/
instance (X : List Cr) (a : Nat) : Decidable (isArc X a) := inferInstanceAs (Decidable (_ ∧ _))
def nxt (X : List Cr) (a : Nat) : Nat := if isArc X a then nextA X a else a
theorem comes_opp (x : Cr) {s : Nat} (hs : s < 4) : x.comes ((s + 2) % 4) = !x.comes s := by
  unfold Cr.comes over
  cases x.p <;> match s, hs with
    | 0, _ => rfl
    | 1, _ => rfl
    | 2, _ => rfl
    | 3, _ => rfl
section
variable {X : List Cr}
theorem cm_opp {p : Pl} (hp : isPl X p) : cm X (p.1, (p.2 + 2) % 4) = !cm X p := comes_opp _ hp.2
theorem Ok.next_inj (h : Ok X) {a b : Nat} (ha : Kn.isArc X a) (hb : Kn.isArc X b) (e : nextA X a = nextA X b) : a = b := by
  have p1 := h.isPl_end (io := true) ha
  have p2 := h.isPl_end (io := true) hb
  have q1 := isPl_turn p1 2
  have q2 := isPl_turn p2 2
  have e1 : at_ X ((endP X true a).1, ((endP X true a).2 + 2) % 4) = at_ X ((endP X true b).1, ((endP X true b).2 + 2) % 4) := by
    rw [← h.arcN_eq q1, ← h.arcN_eq q2]
    exact congrArg _ e
  have e2 := h.uniq _ _ q1 q2 (by rw [cm_opp p1, cm_opp p2, h.cm_end ha, h.cm_end hb]) e1
  injection e2 with e3 e4
  have e5 : endP X true a = endP X true b := Prod.ext e3 (by have := p1.2; have := p2.2; omega)
  rw [← h.arc_end (io := true) ha, e5, h.arc_end hb]
theorem Ok.nxt_pm (h : Ok X) : Pm (nArcs X + 1) (nxt X) := by
  have key : ∀ x, Kn.isArc X x → Kn.isArc X (nxt X x) := fun x hx => by
    unfold nxt; rw [if_pos hx]; exact h.isArc_next hx
  refine ⟨fun x hx => ?_, fun x hx => ?_, fun x y e => ?_⟩
  · by_cases c : Kn.isArc X x
    · have := (key x c).2; omega
    · unfold nxt; rw [if_neg c]; exact hx
  · unfold nxt; rw [if_neg (fun c => by have := c.2; omega)]
  · by_cases c : Kn.isArc X x
    · by_cases d : Kn.isArc X y
      · unfold nxt at e; rw [if_pos c, if_pos d] at e; exact h.next_inj c d e
      · have := key x c
        rw [e] at this
        unfold nxt at this; rw [if_neg d] at this
        exact absurd this d
    · by_cases d : Kn.isArc X y
      · have := key y d
        rw [← e] at this
        unfold nxt at this; rw [if_neg c] at this
        exact absurd this c
      · unfold nxt at e; rw [if_neg c, if_neg d] at e; exact e
theorem Ok.strands_nxt (h : Ok X) : rings (nxt X) (nArcs X + 1 + 1) [] (arcs X) = strandsL X := by
  have hall : ∀ x ∈ arcs X, nextA X x ∈ arcs X := fun x hx => mem_arcs.2 (h.isArc_next (mem_arcs.1 hx))
  have h1 := rings_map (nx := nextA X) (ny := nxt X) (g := fun a => a) (all := arcs X) (fun _ _ _ _ e => e) hall (fun x hx => by unfold nxt; rw [if_pos (mem_arcs.1 hx)]) (nArcs X + 1 + 1) (ds := arcs X) (seen := []) (fun y hy => by cases hy) (fun y hy => hy)
  have h2 : ∀ {N N' : Nat} {ds seen : List Nat}, nArcs X < N → nArcs X < N' → seen.Nodup → (∀ y ∈ seen, y ∈ arcs X) → (∀ y ∈ ds, y ∈ arcs X) → rings (nextA X) N seen ds = rings (nextA X) N' seen ds := by
    have hr : ∀ {k k' : Nat} {seen : List Nat} {x : Nat}, nArcs X < k + seen.length → nArcs X < k' + seen.length → seen.Nodup → (∀ y ∈ seen, y ∈ arcs X) → x ∈ arcs X → ring (nextA X) k seen x = ring (nextA X) k' seen x := by
      intro k
      induction k with
      | zero =>
        intro k' seen x h1 _ h3 h4 _
        have := nodup_le h3 h4
        rw [arcs_length] at this
        omega
      | succ k ih =>
        intro k' seen x h1 h2 h3 h4 h5
        by_cases c : x ∈ seen
        · rw [ring_seen _ c, ring_seen _ c]
        · cases k' with
          | zero =>
            have := nodup_le h3 h4
            rw [arcs_length] at this
            omega
          | succ k' =>
            rw [ring_new _ c, ring_new _ c]
            rw [ih (k' := k') (by simp; omega) (by simp; omega) (nodup_snoc h3 c) (fun y hy => by
              rcases List.mem_append.1 hy with hy | hy
              · exact h4 y hy
              · rw [List.mem_singleton] at hy; exact hy ▸ h5) (hall x h5)]
    intro N N' ds
    induction ds with
    | nil => intro seen _ _ _ _ _; rw [rings_nil, rings_nil]
    | cons d ds ih =>
      intro seen h1 h2 h3 h4 h5
      have hd := h5 d (by simp)
      by_cases c : d ∈ seen
      · rw [rings_seen _ c, rings_seen _ c]
        exact ih h1 h2 h3 h4 fun y hy => h5 y (by simp [hy])
      · rw [rings_new _ c, rings_new _ c, hr (k := N) (k' := N') (by omega) (by omega) h3 h4 hd]
        congr 1
        refine ih h1 h2 (ring_nodup _ _ d h3) (fun y hy => ?_) fun y hy => h5 y (by simp [hy])
        rcases List.mem_append.1 hy with hy | hy
        · exact h4 y hy
        · exact ring_sub _ hall _ _ hd y hy
  have h3 : (rings (nextA X) (nArcs X + 1 + 1) [] (arcs X)).map (List.map fun a => a) = rings (nextA X) (nArcs X + 1 + 1) [] (arcs X) := by
    conv => rhs; rw [← List.map_id (rings (nextA X) (nArcs X + 1 + 1) [] (arcs X))]
    refine List.map_congr_left fun l _ => ?_
    simp
  rw [List.map_nil, List.map_id', h3] at h1
  rw [h1]
  exact h2 (by omega) (by omega) (by simp) (fun y hy => by cases hy) (fun y hy => hy)
theorem arcs_lt {y : Nat} (hy : y ∈ arcs X) : y < nArcs X + 1 := by have := (mem_arcs.1 hy).2; omega
theorem Ok.strands_is (h : Ok X) : ∀ r ∈ strandsL X, ∀ x ∈ r, ∀ y, y ∈ r ↔ Orb (nxt X) x y := by
  rw [← h.strands_nxt]
  exact rings_is h.nxt_pm (by omega) (by simp) (fun y hy => by cases hy) (fun y hy => by cases hy) fun y hy => arcs_lt hy
theorem strands_arc (h : Ok X) {r : List Nat} (hr : r ∈ strandsL X) {x : Nat} (hx : x ∈ r) : Kn.isArc X x :=
  mem_arcs.1 ((strands_perm h).mem_iff.1 (List.mem_flatten.2 ⟨r, hr, hx⟩))
theorem Ok.strands_cyc (h : Ok X) : ∀ r ∈ strandsL X, Cyc (nextA X) r := by
  intro r hr i hi
  have h1 : Cyc (nxt X) r := by
    have hr' := hr
    rw [← h.strands_nxt] at hr'
    exact rings_cyc h.nxt_pm (by omega) (by simp) (fun y hy => by cases hy) (fun y hy => by cases hy) (fun y hy => arcs_lt hy) r hr'
  have h2 := h1 i hi
  rw [h2]
  unfold nxt
  rw [if_pos (strands_arc h hr (List.getElem_mem hi))]
theorem strands_ne (X : List Cr) : ∀ r ∈ strandsL X, r ≠ [] := rings_ne (nextA X) (by omega) (arcs X) []

/- a knot that is planar: the colour of the place to which an arc comes turns from arc to arc -/
theorem Ok.board_next (h : Ok X) {col : Pl → Bool} (hc : ∀ p, isPl X p → col (other X p) = !col p ∧ col (p.1, (p.2 + 3) % 4) = !col p) {a : Nat} (ha : Kn.isArc X a) : col (endP X true (nextA X a)) = !col (endP X true a) := by
  have p1 := h.isPl_end (io := true) ha
  have q1 := isPl_turn p1 2
  have e : endP X true (nextA X a) = other X ((endP X true a).1, ((endP X true a).2 + 2) % 4) := by
    unfold other nextA
    rw [cm_opp p1, h.cm_end ha]; rfl
  have h2 : ∀ p, isPl X p → col (p.1, (p.2 + 2) % 4) = col p := fun p hp => by
    have a1 := (hc p hp).2
    have a2 := (hc _ (isPl_turn hp 3)).2
    rw [a1] at a2
    have e2 : ((p.1, (p.2 + 3) % 4).1, ((p.1, (p.2 + 3) % 4).2 + 3) % 4) = (p.1, (p.2 + 2) % 4) := by
      simp only; congr 1; omega
    rw [e2] at a2
    rw [a2]; simp
  rw [e, (hc _ q1).1, h2 _ p1]
theorem Ok.board_cross (h : Ok X) {col : Pl → Bool} (hc : ∀ p, isPl X p → col (other X p) = !col p ∧ col (p.1, (p.2 + 3) % 4) = !col p) {c s : Nat} (hcl : c < X.length) (hs : s = 1 ∨ s = 3) : col (c, s) = !col (c, 0) := by
  have a0 := (hc (c, 0) ⟨hcl, by omega⟩).2
  have a1 := (hc (c, 1) ⟨hcl, by omega⟩).2
  rcases hs with rfl | rfl
  · have : col (c, 0) = !col (c, 1) := by simpa using a1
    rw [this]; simp
  · exact a0
/- of one strand: the two visits of a crossing lie at places of which just one is even -/
theorem Ok.gauss_odd (h : Ok X) (hp : planarB X = true) {r : List Nat} (hr : r ∈ strandsL X) {i j : Nat} (hi : i < r.length) (hj : j < r.length) {c s : Nat} (hs : s = 1 ∨ s = 3) (e1 : endP X true r[i] = (c, 0)) (e2 : endP X true r[j] = (c, s)) : i % 2 ≠ j % 2 := by
  obtain ⟨col, hc⟩ := h.board hp
  have key : ∀ k (hk : k < r.length), col (endP X true r[k]) = xor (col (endP X true (r[0]'(by omega)))) (decide (k % 2 = 1)) := by
    intro k
    induction k with
    | zero => intro hk; simp
    | succ k ih =>
      intro hk
      have e : r[k + 1] = nextA X r[k] := by
        have := h.strands_cyc r hr k (by omega)
        have e' : (k + 1) % r.length = k + 1 := Nat.mod_eq_of_lt hk
        simp only [e'] at this
        exact this
      rw [e, h.board_next hc (strands_arc h hr (List.getElem_mem _)), ih (by omega)]
      rcases Nat.mod_two_eq_zero_or_one k with d | d
      · rw [d, show (k + 1) % 2 = 1 by omega]; simp
      · rw [d, show (k + 1) % 2 = 0 by omega]; simp
  intro e
  have hcl : c < X.length := by
    have := (h.isPl_end (io := true) (strands_arc h hr (List.getElem_mem hi))).1
    rw [e1] at this; exact this
  have h1 := key i hi
  have h2 := key j hj
  rw [e1] at h1
  rw [e2, h.board_cross hc hcl hs, h1, e] at h2
  revert h2
  cases col (endP X true (r[0]'(by omega))) <;> cases decide (j % 2 = 1) <;> simp

/- new numbers of arcs: along the strands -/
def along (X : List Cr) (a : Nat) : Nat := (strandsL X).flatten.idxOf a + 1
def builtL (X : List Cr) : List Cr := X.map fun x => x.ren (along X)
theorem Ok.along_lt (h : Ok X) {a : Nat} (ha : Kn.isArc X a) : Kn.isArc X (along X a) := by
  have hm : a ∈ (strandsL X).flatten := (strands_perm h).mem_iff.2 (mem_arcs.2 ha)
  have := List.idxOf_lt_length_of_mem hm
  rw [(strands_perm h).length_eq, arcs_length] at this
  unfold along
  exact ⟨by omega, by omega⟩
theorem Ok.along_inj (h : Ok X) {a b : Nat} (ha : Kn.isArc X a) (e : along X a = along X b) : a = b := by
  have hm : a ∈ (strandsL X).flatten := (strands_perm h).mem_iff.2 (mem_arcs.2 ha)
  have h1 := List.idxOf_lt_length_of_mem hm
  unfold along at e
  have e' : (strandsL X).flatten.idxOf a = (strandsL X).flatten.idxOf b := by omega
  have h2 : (strandsL X).flatten.idxOf b < (strandsL X).flatten.length := by omega
  rw [← List.getElem_idxOf h1, ← List.getElem_idxOf h2]
  congr 1
end
end Go.Proofs.YtdelekkbkpldjaaDoor.Kn

/- A kink taken out, a face of two sides taken out: what is left may be, and is planar: plain mathematics. -/
namespace Go.Proofs.YtdelekkbkpldjaaDoor.Kn

/- the classes of arcs behind crossings through which strands go on -/
def tieF (X : List Cr) (f : Nat → Nat) (c : Nat) : Nat → Nat :=
  joinF (joinF f (arcN X (c, 0)) (arcN X (c, 2))) (arcN X (c, over (cr X c).p)) (arcN X (c, (over (cr X c).p + 2) % 4))
def tieE (X : List Cr) (es : Prs) (c : Nat) : Prs :=
  (arcN X (c, over (cr X c).p), arcN X (c, (over (cr X c).p + 2) % 4)) :: (arcN X (c, 0), arcN X (c, 2)) :: es
def classF (X : List Cr) (gone : Nat → Bool) : Nat → Nat → Nat
  | 0 => fun a => a
  | k + 1 => if gone k then tieF X (classF X gone k) k else classF X gone k
def classE (X : List Cr) (gone : Nat → Bool) : Nat → Prs
  | 0 => []
  | k + 1 => if gone k then tieE X (classE X gone k) k else classE X gone k
def takeL (X : List Cr) (gone : Nat → Bool) : List Cr := withL X (classF X gone X.length) gone
def takeN (X : List Cr) (gone : Nat → Bool) : Nat := ringN X (classF X gone X.length) gone
section
variable {X : List Cr}
theorem Ok.class_rep (h : Ok X) (gone : Nat → Bool) : ∀ k, k ≤ X.length → Rep (classF X gone k) (com (fun x => x) (classE X gone k))
  | 0, _ => Rep.id
  | k + 1, hk => by
    have i := h.class_rep gone k (by omega)
    unfold classF classE
    split
    · have ar : ∀ s, s < 4 → 1 ≤ arcN X (k, s) := fun s hs => (h.isArc (p := (k, s)) ⟨by show k < _; omega, hs⟩).1
      exact (i.join (ar 0 (by omega)) (ar 2 (by omega))).join (ar _ (over_lt _)) (ar _ (Nat.mod_lt _ (by omega)))
    · exact i
theorem mem_classE {gone : Nat → Bool} {e : Nat × Nat} : ∀ {k : Nat}, e ∈ classE X gone k ↔ ∃ c, c < k ∧ gone c = true ∧ (e = (arcN X (c, over (cr X c).p), arcN X (c, (over (cr X c).p + 2) % 4)) ∨ e = (arcN X (c, 0), arcN X (c, 2)))
  | 0 => by simp [classE]
  | k + 1 => by
    unfold classE
    by_cases g : gone k = true
    · rw [if_pos g]
      unfold tieE
      rw [List.mem_cons, List.mem_cons, mem_classE]
      constructor
      · rintro (h | h | ⟨c, h1, h2⟩)
        · exact ⟨k, by omega, g, .inl h⟩
        · exact ⟨k, by omega, g, .inr h⟩
        · exact ⟨c, by omega, h2⟩
      · rintro ⟨c, h1, h2, h3⟩
        by_cases e : c = k
        · subst e
          rcases h3 with h3 | h3
          · exact .inl h3
          · exact .inr (.inl h3)
        · exact .inr (.inr ⟨c, by omega, h2, h3⟩)
    · rw [if_neg g, mem_classE]
      constructor
      · rintro ⟨c, h1, h2⟩; exact ⟨c, by omega, h2⟩
      · rintro ⟨c, h1, h2, h3⟩
        refine ⟨c, ?_, h2, h3⟩
        by_cases e : c = k
        · subst e; exact absurd h2 g
        · omega
theorem over_or (p : Bool) : over p = 1 ∨ over p = 3 := by cases p <;> simp [over]
/- each strand of a crossing that is gone is tied -/
theorem tied_all {gone : Nat → Bool} {k c : Nat} (hc : c < k) (hg : gone c = true) {s : Nat} (hs : s < 4) : com (fun x => x) (classE X gone k) (arcN X (c, s)) (arcN X (c, (s + 2) % 4)) := by
  have hE := com_id_equiv (classE X gone k)
  have h1 := com_id_pair (mem_classE (X := X) (gone := gone) (k := k) |>.2 ⟨c, hc, hg, .inl rfl⟩)
  have h2 := com_id_pair (mem_classE (X := X) (gone := gone) (k := k) |>.2 ⟨c, hc, hg, .inr rfl⟩)
  simp only at h1 h2
  have cases4 : s = 0 ∨ s = 1 ∨ s = 2 ∨ s = 3 := by omega
  rcases cases4 with rfl | rfl | rfl | rfl
  · exact h2
  · rcases over_or (cr X c).p with e | e <;> rw [e] at h1
    · exact h1
    · exact hE.symm h1
  · exact hE.symm h2
  · rcases over_or (cr X c).p with e | e <;> rw [e] at h1
    · exact hE.symm h1
    · exact h1
/- two strands tied are all of the crossing -/
theorem tied_two {es : Prs} {c s : Nat} (h1 : com (fun x => x) es (arcN X (c, s)) (arcN X (c, (s + 2) % 4))) (h2 : com (fun x => x) es (arcN X (c, (s + 1) % 4)) (arcN X (c, (s + 3) % 4))) (hs : s < 4) {t : Nat} (ht : t < 4) :
    com (fun x => x) es (arcN X (c, t)) (arcN X (c, (t + 2) % 4)) := by
  have hE := com_id_equiv es
  have cases4 : t = s ∨ t = (s + 1) % 4 ∨ t = (s + 2) % 4 ∨ t = (s + 3) % 4 := by omega
  rcases cases4 with e | e | e | e
  · rw [e]; exact h1
  · rw [show (t + 2) % 4 = (s + 3) % 4 by omega, e]; exact h2
  · rw [show (t + 2) % 4 = s by omega, e]; exact hE.symm h1
  · rw [show (t + 2) % 4 = (s + 1) % 4 by omega, e]; exact hE.symm h2
theorem Ok.flat (h : Ok X) (hp : planarB X = true) : Flat (4 * X.length) (sig X.length) (ens X) := by
  have h0 := h.planar_iff.1 hp
  have a1 := h.cl_faces
  have a2 := h.cl_pieces
  have a3 := cl_sig X.length
  have hl : (ens X).length = nArcs X := by unfold ens; rw [List.length_map, arcs_length]
  unfold nArcs at hl
  unfold Flat
  have a1 : cl (4 * X.length) (Orb (phi (sig X.length) (ens X))) = (facesL X).length := a1
  have a2 : cl (4 * X.length) (com (sig X.length) (ens X)) = (piecesL X).length := a2
  omega
theorem Ok.mate_free (h : Ok X) {p : Pl} (hp : isPl X p) : mate (ens X) (pk p) ≠ pk p := fun e => by
  rw [h.mate_pk hp] at e
  have := pk_inj (h.isPl_other hp).2 hp.2 e
  have h1 := h.cm_other hp
  rw [this] at h1
  cases hh : cm X p <;> simp [hh] at h1
theorem Ok.mate_big (h : Ok X) {z : Nat} (hz : 4 * X.length ≤ z) : mate (ens X) z = z := mate_out (by
  rintro ⟨e, he, k⟩
  obtain ⟨h1, h2, _⟩ := h.ens_good e he
  omega)
theorem div_pk {c s z : Nat} (hs : s < 4) : z = pk (c, s) → z / 4 = c := by rintro rfl; exact pk_div (p := (c, s)) hs
theorem mem_four {c s z : Nat} (hs : s < 4) : z ∈ [pk (c, s), pk (c, (s + 1) % 4), pk (c, (s + 2) % 4), pk (c, (s + 3) % 4)] ↔ z / 4 = c := by
  unfold pk
  simp only [List.mem_cons, List.not_mem_nil, or_false]
  omega
theorem four_nodup {c s : Nat} (hs : s < 4) : [pk (c, s), pk (c, (s + 1) % 4), pk (c, (s + 2) % 4), pk (c, (s + 3) % 4)].Nodup := by
  unfold pk
  simp only [List.nodup_cons, List.mem_cons, List.not_mem_nil, or_false, not_or, List.nodup_nil, and_true, not_false_eq_true]
  omega
theorem four_ne {c s : Nat} (hs : s < 4) : ((c, s) : Pl) ≠ (c, (s + 1) % 4) ∧ ((c, s) : Pl) ≠ (c, (s + 2) % 4) ∧ ((c, s) : Pl) ≠ (c, (s + 3) % 4) ∧ ((c, (s + 1) % 4) : Pl) ≠ (c, (s + 2) % 4) ∧ ((c, (s + 1) % 4) : Pl) ≠ (c, (s + 3) % 4) ∧ ((c, (s + 2) % 4) : Pl) ≠ (c, (s + 3) % 4) := by
  simp only [ne_eq, Prod.mk.injEq, true_and]
  omega
theorem of_four {c s : Nat} {p : Pl} (hs : s < 4) (hp : p.2 < 4) : p.1 = c ↔ p = (c, s) ∨ p = (c, (s + 1) % 4) ∨ p = (c, (s + 2) % 4) ∨ p = (c, (s + 3) % 4) := by
  obtain ⟨a, b⟩ := p
  simp only [Prod.mk.injEq] at hp ⊢
  omega
theorem sig4 {n c s : Nat} (hc : c < n) (hs : s < 4) : sig n (pk (c, s)) = pk (c, (s + 3) % 4) ∧ sig n (pk (c, (s + 3) % 4)) = pk (c, (s + 2) % 4) ∧ sig n (pk (c, (s + 2) % 4)) = pk (c, (s + 1) % 4) ∧ sig n (pk (c, (s + 1) % 4)) = pk (c, s) := by
  refine ⟨sig_pk hc hs, ?_, ?_, ?_⟩ <;> rw [sig_pk (p := (c, _)) hc (Nat.mod_lt _ (by omega))] <;> simp only <;> congr 2 <;> omega
abbrev only (c : Nat) : Nat → Bool := fun d => decide (d = c)
/- a kink -/
theorem Ok.take_kink (h : Ok X) {c s : Nat} (hc : c < X.length) (hs : s < 4) (ha : arcN X (c, s) = arcN X (c, (s + 1) % 4)) :
    Ok (takeL X (only c)) ∧ (planarB X = true → planarB (takeL X (only c)) = true) := by
  have m4 : ∀ k, (s + k) % 4 < 4 := fun k => Nat.mod_lt _ (by omega)
  have pA : isPl X (c, s) := ⟨hc, hs⟩
  have pB : isPl X (c, (s + 1) % 4) := ⟨hc, m4 1⟩
  have pC : isPl X (c, (s + 2) % 4) := ⟨hc, m4 2⟩
  have pD : isPl X (c, (s + 3) % 4) := ⟨hc, m4 3⟩
  obtain ⟨nAB, nAC, nAD, nBC, nBD, nCD⟩ := four_ne (c := c) hs
  have oA : other X (c, s) = (c, (s + 1) % 4) := by
    rcases (h.arc_eq pA pB).1 ha with e | e
    · exact absurd e.symm nAB
    · exact e.symm
  have cBD : cm X (c, (s + 3) % 4) = !cm X (c, (s + 1) % 4) := by
    have := cm_opp pB
    rwa [show ((s + 1) % 4 + 2) % 4 = (s + 3) % 4 by omega] at this
  have T := h.tied.kink (com_id_equiv []) pA pB pC pD (cm_opp pA) cBD oA nAC nAD nBC nBD nCD
  have T' : Tied X (fun p => isPl X p ∧ only c p.1 = false) (com (fun x => x) (classE X (only c) X.length)) (fun p => if other X p = (c, (s + 2) % 4) then other X (c, (s + 3) % 4) else if other X p = (c, (s + 3) % 4) then other X (c, (s + 2) % 4) else other X p) := by
    refine T.congr (fun p => ?_) (fun x y => ?_) fun _ _ => rfl
    · constructor
      · rintro ⟨h1, h2⟩
        have h2 : ¬ p.1 = c := by simpa using h2
        rw [of_four hs h1.2] at h2
        simp only [not_or] at h2
        exact ⟨h1, h2.1, h2.2.2.1, h2.2.1, h2.2.2.2⟩
      · rintro ⟨h1, h2, h3, h4, h5⟩
        refine ⟨h1, ?_⟩
        have : ¬ p.1 = c := by rw [of_four hs h1.2]; simp only [not_or]; exact ⟨h2, h4, h3, h5⟩
        simpa using this
    · show com (fun x => x) (classE X (only c) X.length) x y ↔ com (fun x => x) [(arcN X (c, (s + 1) % 4), arcN X (c, (s + 3) % 4)), (arcN X (c, s), arcN X (c, (s + 2) % 4))] x y
      have g : only c c = true := decide_eq_true rfl
      constructor
      · refine com_id_mono fun e he => ?_
        obtain ⟨d, _, hd, k⟩ := mem_classE.1 he
        have hd : d = c := by simpa using hd
        subst hd
        have q := fun {t} (ht : t < 4) => tied_two (X := X) (es := [(arcN X (d, (s + 1) % 4), arcN X (d, (s + 3) % 4)), (arcN X (d, s), arcN X (d, (s + 2) % 4))]) (c := d) (s := s) (com_id_pair (e := (arcN X (d, s), arcN X (d, (s + 2) % 4))) (by simp)) (com_id_pair (e := (arcN X (d, (s + 1) % 4), arcN X (d, (s + 3) % 4))) (by simp)) hs (t := t) ht
        rcases k with rfl | rfl
        · exact q (over_lt _)
        · exact q (t := 0) (by omega)
      · refine com_id_mono fun e he => ?_
        rw [List.mem_cons, List.mem_singleton] at he
        rcases he with rfl | rfl
        · have := tied_all (X := X) hc g (m4 1)
          rwa [show ((s + 1) % 4 + 2) % 4 = (s + 3) % 4 by omega] at this
        · exact tied_all (X := X) hc g hs
  have cut := with_cut h (h.class_rep (only c) X.length (Nat.le_refl _)) (com_id_equiv _) T' fun _ => Iff.rfl
  refine ⟨cut.okY, fun hp => ?_⟩
  obtain ⟨sA, sD, sC, sB⟩ := sig4 (n := X.length) hc hs
  obtain ⟨es, g, d, pm, f, m⟩ := (h.flat hp).kink (sig_pm _) h.ens_good h.ens_dis (four_nodup (c := c) hs) sA sD sC sB (by rw [h.mate_pk pA, oA]) (h.mate_free pC) (h.mate_free pD)
  have liv : ∀ z, (∀ p, (isPl X p ∧ only c p.1 = false) → pk p ≠ z) → 4 * X.length ≤ z ∨ z / 4 = c := fun z hz => by
    by_cases k : 4 * X.length ≤ z
    · exact .inl k
    · refine .inr (Classical.byContradiction fun k' => hz (pl z) ⟨isPl_pl (by omega), by simpa [pl] using k'⟩ ?_)
      unfold pk pl; simp only; omega
  have out : ∀ p, (isPl X p ∧ only c p.1 = false) → pk p ∉ [pk (c, s), pk (c, (s + 1) % 4), pk (c, (s + 2) % 4), pk (c, (s + 3) % 4)] := fun p hp => by
    rw [mem_four hs, pk_div hp.1.2]
    simpa using hp.2
  refine cut.planar pm g d f (fun p hp => ?_) (fun z hz => ?_) (fun p hp => ?_) fun z hz => ?_
  · rw [m, if_neg (out p hp), h.mate_pk hp.1, h.mate_pk pD, h.mate_pk pC]
    have i := fun {q} (hq : isPl X q) => (show pk (other X p) = pk q ↔ other X p = q from ⟨pk_inj (h.isPl_other hp.1).2 hq.2, fun e => by rw [e]⟩)
    by_cases c1 : other X p = (c, (s + 2) % 4)
    · rw [if_pos ((i pC).2 c1), if_pos c1]
    · rw [if_neg (fun e => c1 ((i pC).1 e)), if_neg c1]
      by_cases c2 : other X p = (c, (s + 3) % 4)
      · rw [if_pos ((i pD).2 c2), if_pos c2]
      · rw [if_neg (fun e => c2 ((i pD).1 e)), if_neg c2]
  · rw [m]
    rcases liv z hz with k | k
    · have hz' := h.mate_big k
      have b1 := pk_lt pC
      have b2 := pk_lt pD
      rw [hz', if_neg (show ¬ z = pk (c, (s + 2) % 4) by omega), if_neg (show ¬ z = pk (c, (s + 3) % 4) by omega)]
      split <;> rfl
    · rw [if_pos ((mem_four hs).2 k)]
  · simp only [if_neg (out p hp)]
  · rcases liv z hz with k | k
    · simp only [(sig_pm X.length).out z k]
      split <;> rfl
    · simp only [if_pos ((mem_four hs).2 k)]
end
end Go.Proofs.YtdelekkbkpldjaaDoor.Kn

/- A face of two sides taken out: what is left may be, and is planar: plain mathematics. -/
namespace Go.Proofs.YtdelekkbkpldjaaDoor.Kn
abbrev both (x y : Nat) : Nat → Bool := fun d => decide (d = x) || decide (d = y)
section
variable {X : List Cr}
theorem both_false {x y d : Nat} : both x y d = false ↔ d ≠ x ∧ d ≠ y := by simp
theorem mem_eight {x y s t z : Nat} (hs : s < 4) (ht : t < 4) :
    z ∈ [pk (x, s), pk (x, (s + 1) % 4), pk (x, (s + 2) % 4), pk (x, (s + 3) % 4), pk (y, t), pk (y, (t + 3) % 4), pk (y, (t + 2) % 4), pk (y, (t + 1) % 4)] ↔ z / 4 = x ∨ z / 4 = y := by
  unfold pk
  simp only [List.mem_cons, List.not_mem_nil, or_false]
  omega
theorem eight_nodup {x y s t : Nat} (hxy : x ≠ y) (hs : s < 4) (ht : t < 4) :
    [pk (x, s), pk (x, (s + 1) % 4), pk (x, (s + 2) % 4), pk (x, (s + 3) % 4), pk (y, t), pk (y, (t + 3) % 4), pk (y, (t + 2) % 4), pk (y, (t + 1) % 4)].Nodup := by
  unfold pk
  simp only [List.nodup_cons, List.mem_cons, List.not_mem_nil, or_false, not_or, List.nodup_nil, and_true, not_false_eq_true]
  omega
theorem off {x y s t : Nat} (h : x ≠ y) : ((x, s) : Pl) ≠ (y, t) := fun e => h (by injection e)
theorem Ok.take_bigon (h : Ok X) {x y s t : Nat} (hx : x < X.length) (hy : y < X.length) (hxy : x ≠ y) (hs : s < 4) (ht : t < 4)
    (oA : other X (x, s) = (y, t)) (oB : other X (x, (s + 1) % 4) = (y, (t + 3) % 4)) :
    Ok (takeL X (both x y)) ∧ (planarB X = true → planarB (takeL X (both x y)) = true) := by
  have m4 : ∀ k, (s + k) % 4 < 4 := fun k => Nat.mod_lt _ (by omega)
  have n4 : ∀ k, (t + k) % 4 < 4 := fun k => Nat.mod_lt _ (by omega)
  have hyx : y ≠ x := fun e => hxy e.symm
  have pA : isPl X (x, s) := ⟨hx, hs⟩
  have pB : isPl X (x, (s + 1) % 4) := ⟨hx, m4 1⟩
  have pC : isPl X (x, (s + 2) % 4) := ⟨hx, m4 2⟩
  have pD : isPl X (x, (s + 3) % 4) := ⟨hx, m4 3⟩
  have pa : isPl X (y, t) := ⟨hy, ht⟩
  have pb : isPl X (y, (t + 3) % 4) := ⟨hy, n4 3⟩
  have pc : isPl X (y, (t + 2) % 4) := ⟨hy, n4 2⟩
  have pd : isPl X (y, (t + 1) % 4) := ⟨hy, n4 1⟩
  obtain ⟨nAB, nAC, nAD, nBC, nBD, nCD⟩ := four_ne (c := x) hs
  obtain ⟨nad, nac, nab, ndc, ndb, ncb⟩ := four_ne (c := y) ht
  have cBD : cm X (x, (s + 3) % 4) = !cm X (x, (s + 1) % 4) := by
    have := cm_opp pB
    rwa [show ((s + 1) % 4 + 2) % 4 = (s + 3) % 4 by omega] at this
  have cbd : cm X (y, (t + 1) % 4) = !cm X (y, (t + 3) % 4) := by
    have := cm_opp pb
    rwa [show ((t + 3) % 4 + 2) % 4 = (t + 1) % 4 by omega] at this
  have T1 := h.tied.pass (com_id_equiv []) pA pC pa pc (cm_opp pA) (cm_opp pa) oA (off hxy) (off hxy) (off hxy) nAC nac
  have o1B : (if other X (x, (s + 1) % 4) = (x, (s + 2) % 4) then other X (y, (t + 2) % 4) else if other X (x, (s + 1) % 4) = (y, (t + 2) % 4) then other X (x, (s + 2) % 4) else other X (x, (s + 1) % 4)) = (y, (t + 3) % 4) := by
    rw [oB, if_neg (off hyx), if_neg (fun e => ncb e.symm)]
  have T2 := T1.pass (mrg_equiv (mrg_equiv (com_id_equiv []) _ _) _ _) (A := (x, (s + 1) % 4)) (C := (x, (s + 3) % 4)) (a := (y, (t + 3) % 4)) (c := (y, (t + 1) % 4))
    ⟨pB, fun e => nAB e.symm, nBC, off hxy, off hxy⟩ ⟨pD, fun e => nAD e.symm, fun e => nCD e.symm, off hxy, off hxy⟩ ⟨pb, off hyx, off hyx, fun e => nab e.symm, fun e => ncb e.symm⟩ ⟨pd, off hyx, off hyx, fun e => nad e.symm, ndc⟩
    cBD cbd o1B (off hxy) (off hxy) (off hxy) nBD (fun e => ndb e.symm)
  have in8 : ∀ {p : Pl}, p.2 < 4 → (both x y p.1 = false ↔ (p ≠ (x, s) ∧ p ≠ (x, (s + 2) % 4) ∧ p ≠ (y, t) ∧ p ≠ (y, (t + 2) % 4)) ∧ p ≠ (x, (s + 1) % 4) ∧ p ≠ (x, (s + 3) % 4) ∧ p ≠ (y, (t + 3) % 4) ∧ p ≠ (y, (t + 1) % 4)) := fun {p} hp => by
    rw [both_false, ne_eq, ne_eq, of_four (c := x) hs hp, of_four (c := y) ht hp]
    simp only [not_or]
    constructor
    · rintro ⟨⟨a1, a2, a3, a4⟩, b1, b2, b3, b4⟩; exact ⟨⟨a1, a3, b1, b3⟩, a2, a4, b4, b2⟩
    · rintro ⟨⟨a1, a3, b1, b3⟩, a2, a4, b4, b2⟩; exact ⟨⟨a1, a2, a3, a4⟩, b1, b2, b3, b4⟩
  have T' := T2.congr (live' := fun p => isPl X p ∧ both x y p.1 = false) (E' := com (fun x => x) (classE X (both x y) X.length)) (fun p => by
      constructor
      · rintro ⟨h1, h2⟩
        obtain ⟨h3, h4⟩ := (in8 h1.2).1 h2
        exact ⟨⟨h1, h3⟩, h4⟩
      · rintro ⟨⟨h1, h3⟩, h4⟩
        exact ⟨h1, (in8 h1.2).2 ⟨h3, h4⟩⟩) (fun u v => by
      show com (fun x => x) (classE X (both x y) X.length) u v ↔ com (fun x => x) [(arcN X (y, (t + 3) % 4), arcN X (y, (t + 1) % 4)), (arcN X (x, (s + 1) % 4), arcN X (x, (s + 3) % 4)), (arcN X (y, t), arcN X (y, (t + 2) % 4)), (arcN X (x, s), arcN X (x, (s + 2) % 4))] u v
      have gx : both x y x = true := by simp
      have gy : both x y y = true := by simp
      constructor
      · refine com_id_mono fun e he => ?_
        obtain ⟨d, _, hd, k⟩ := mem_classE.1 he
        have hE := com_id_equiv [(arcN X (y, (t + 3) % 4), arcN X (y, (t + 1) % 4)), (arcN X (x, (s + 1) % 4), arcN X (x, (s + 3) % 4)), (arcN X (y, t), arcN X (y, (t + 2) % 4)), (arcN X (x, s), arcN X (x, (s + 2) % 4))]
        have q : ∀ {t'}, t' < 4 → com (fun x => x) [(arcN X (y, (t + 3) % 4), arcN X (y, (t + 1) % 4)), (arcN X (x, (s + 1) % 4), arcN X (x, (s + 3) % 4)), (arcN X (y, t), arcN X (y, (t + 2) % 4)), (arcN X (x, s), arcN X (x, (s + 2) % 4))] (arcN X (d, t')) (arcN X (d, (t' + 2) % 4)) := fun {t'} ht' => by
          have hd : d = x ∨ d = y := by simpa using hd
          rcases hd with rfl | rfl
          · exact tied_two (s := s) (com_id_pair (e := (arcN X (d, s), arcN X (d, (s + 2) % 4))) (by simp)) (com_id_pair (e := (arcN X (d, (s + 1) % 4), arcN X (d, (s + 3) % 4))) (by simp)) hs ht'
          · exact tied_two (s := t) (com_id_pair (e := (arcN X (d, t), arcN X (d, (t + 2) % 4))) (by simp)) (hE.symm (com_id_pair (e := (arcN X (d, (t + 3) % 4), arcN X (d, (t + 1) % 4))) (by simp))) ht ht'
        rcases k with rfl | rfl
        · exact q (over_lt _)
        · exact q (t' := 0) (by omega)
      · refine com_id_mono fun e he => ?_
        rw [List.mem_cons, List.mem_cons, List.mem_cons, List.mem_singleton] at he
        rcases he with rfl | rfl | rfl | rfl
        · have := tied_all (X := X) hy gy (n4 3)
          rwa [show ((t + 3) % 4 + 2) % 4 = (t + 1) % 4 by omega] at this
        · have := tied_all (X := X) hx gx (m4 1)
          rwa [show ((s + 1) % 4 + 2) % 4 = (s + 3) % 4 by omega] at this
        · exact tied_all (X := X) hy gy ht
        · exact tied_all (X := X) hx gx hs) fun _ _ => rfl
  have cut := with_cut h (h.class_rep (both x y) X.length (Nat.le_refl _)) (com_id_equiv _) T' fun _ => Iff.rfl
  refine ⟨cut.okY, fun hp => ?_⟩
  obtain ⟨sA, sD, sC, sB⟩ := sig4 (n := X.length) hx hs
  obtain ⟨sa, sb, sc, sd⟩ := sig4 (n := X.length) hy ht
  obtain ⟨es, m1, g, d, pm, f, hm1, m⟩ := (h.flat hp).bigon (sig_pm _) h.ens_good h.ens_dis (eight_nodup (x := x) (y := y) hxy hs ht) sA sD sC sB sa sb sc sd
    (by rw [h.mate_pk pA, oA]) (by rw [h.mate_pk pB, oB]) (h.mate_free pC) (h.mate_free pD) (h.mate_free pc) (h.mate_free pd)
  have liv : ∀ z, (∀ p, (isPl X p ∧ both x y p.1 = false) → pk p ≠ z) → 4 * X.length ≤ z ∨ z / 4 = x ∨ z / 4 = y := fun z hz => by
    by_cases k : 4 * X.length ≤ z
    · exact .inl k
    · refine .inr (Classical.byContradiction fun k' => hz (pl z) ⟨isPl_pl (by omega), ?_⟩ ?_)
      · rw [both_false]
        exact ⟨fun e => k' (.inl e), fun e => k' (.inr e)⟩
      · unfold pk pl; simp only; omega
  have out : ∀ p, (isPl X p ∧ both x y p.1 = false) → pk p ∉ [pk (x, s), pk (x, (s + 1) % 4), pk (x, (s + 2) % 4), pk (x, (s + 3) % 4), pk (y, t), pk (y, (t + 3) % 4), pk (y, (t + 2) % 4), pk (y, (t + 1) % 4)] := fun p hp => by
    rw [mem_eight hs ht, pk_div hp.1.2]
    have := both_false.1 hp.2
    exact fun k => k.elim this.1 this.2
  have pke : ∀ {p q : Pl}, p.2 < 4 → q.2 < 4 → (pk p = pk q ↔ p = q) := fun {p q} hp hq => ⟨pk_inj hp hq, fun e => by rw [e]⟩
  -- the first step, told of places
  have st1 : ∀ q, isPl X q → q ≠ (x, s) → q ≠ (x, (s + 1) % 4) → q ≠ (y, t) → q ≠ (y, (t + 3) % 4) → q ≠ (x, (s + 2) % 4) → q ≠ (y, (t + 2) % 4) →
      m1 (pk q) = pk (if other X q = (x, (s + 2) % 4) then other X (y, (t + 2) % 4) else if other X q = (y, (t + 2) % 4) then other X (x, (s + 2) % 4) else other X q) ∧
      (if other X q = (x, (s + 2) % 4) then other X (y, (t + 2) % 4) else if other X q = (y, (t + 2) % 4) then other X (x, (s + 2) % 4) else other X q).2 < 4 := fun q hq k1 k2 k3 k4 k5 k6 => by
    have oq := h.isPl_other hq
    constructor
    · rw [hm1 _ (by
        simp only [List.mem_cons, List.not_mem_nil, or_false, not_or]
        exact ⟨fun e => k1 (pk_inj hq.2 pA.2 e), fun e => k2 (pk_inj hq.2 pB.2 e), fun e => k3 (pk_inj hq.2 pa.2 e), fun e => k4 (pk_inj hq.2 pb.2 e)⟩)]
      rw [if_neg (fun e => e.elim (fun e => k5 (pk_inj hq.2 pC.2 e)) fun e => k6 (pk_inj hq.2 pc.2 e)), h.mate_pk hq, h.mate_pk pc, h.mate_pk pC]
      by_cases c1 : other X q = (x, (s + 2) % 4)
      · rw [if_pos ((pke oq.2 pC.2).2 c1), if_pos c1]
      · rw [if_neg (fun e => c1 ((pke oq.2 pC.2).1 e)), if_neg c1]
        by_cases c2 : other X q = (y, (t + 2) % 4)
        · rw [if_pos ((pke oq.2 pc.2).2 c2), if_pos c2]
        · rw [if_neg (fun e => c2 ((pke oq.2 pc.2).1 e)), if_neg c2]
    · split
      · exact (h.isPl_other pc).2
      · split
        · exact (h.isPl_other pC).2
        · exact oq.2
  have mD := st1 _ pD (fun e => nAD e.symm) (fun e => nBD e.symm) (off hxy) (off hxy) (fun e => nCD e.symm) (off hxy)
  have md := st1 _ pd (off hyx) (off hyx) (fun e => nad e.symm) ndb (off hyx) ndc
  refine cut.planar pm g d f (fun p hp => ?_) (fun z hz => ?_) (fun p hp => ?_) fun z hz => ?_
  · obtain ⟨⟨k1, k5, k3, k6⟩, k2, _, k4, _⟩ := (in8 hp.1.2).1 hp.2
    have mp := st1 p hp.1 k1 k2 k3 k4 k5 k6
    rw [m, if_neg (out p hp), mp.1, mD.1, md.1]
    generalize (if other X p = (x, (s + 2) % 4) then other X (y, (t + 2) % 4) else if other X p = (y, (t + 2) % 4) then other X (x, (s + 2) % 4) else other X p) = w at mp ⊢
    by_cases c1 : w = (x, (s + 3) % 4)
    · rw [if_pos ((pke mp.2 pD.2).2 c1), if_pos c1]
    · rw [if_neg (fun e => c1 ((pke mp.2 pD.2).1 e)), if_neg c1]
      by_cases c2 : w = (y, (t + 1) % 4)
      · rw [if_pos ((pke mp.2 pd.2).2 c2), if_pos c2]
      · rw [if_neg (fun e => c2 ((pke mp.2 pd.2).1 e)), if_neg c2]
  · rw [m]
    rcases liv z hz with k | k
    · have hz' := h.mate_big k
      have far : ∀ {p}, isPl X p → z ≠ pk p := fun hp e => by have := pk_lt hp; omega
      have e1 : m1 z = z := by
        rw [hm1 z (by
          simp only [List.mem_cons, List.not_mem_nil, or_false, not_or]
          exact ⟨far pA, far pB, far pa, far pb⟩), hz', if_neg (far pC), if_neg (far pc)]
        split <;> rfl
      rw [e1, if_neg (far pD), if_neg (far pd)]
      split <;> rfl
    · rw [if_pos ((mem_eight hs ht).2 k)]
  · simp only [if_neg (out p hp)]
  · rcases liv z hz with k | k
    · simp only [(sig_pm X.length).out z k]
      split <;> rfl
    · simp only [if_pos ((mem_eight hs ht).2 k)]
end
end Go.Proofs.YtdelekkbkpldjaaDoor.Kn

/- How many crossings are left, and rings: plain mathematics. -/
namespace Go.Proofs.YtdelekkbkpldjaaDoor.Kn
section
variable {X : List Cr}
theorem takeL_len (gone : Nat → Bool) : (takeL X gone).length = (kept X.length gone).length := withL_len
theorem two_filters (p : Nat → Bool) : ∀ l : List Nat, (l.filter fun c => !p c).length + (l.filter p).length = l.length
  | [] => rfl
  | x :: l => by
    have := two_filters p l
    cases h : p x <;> simp [h] <;> omega
theorem kept_add (n : Nat) (gone : Nat → Bool) : (kept n gone).length + ((List.range n).filter gone).length = n := by
  unfold kept
  rw [two_filters, List.length_range]
theorem kept_only {n c : Nat} (hc : c < n) : (kept n (only c)).length + 1 = n := by
  have h := kept_add n (only c)
  have : ((List.range n).filter (only c)).length = 1 := by
    have P : ((List.range n).filter (only c)).Perm [c] := by
      refine (List.perm_ext_iff_of_nodup (List.nodup_range.sublist List.filter_sublist) (by simp)).2 fun x => ?_
      rw [List.mem_filter, List.mem_range, List.mem_singleton]
      simp only [only, decide_eq_true_eq]
      exact ⟨fun h => h.2, fun h => ⟨h ▸ hc, h⟩⟩
    exact P.length_eq
  omega
theorem kept_both {n x y : Nat} (hx : x < n) (hy : y < n) (hxy : x ≠ y) : (kept n (both x y)).length + 2 = n := by
  have h := kept_add n (both x y)
  have : ((List.range n).filter (both x y)).length = 2 := by
    have P : ((List.range n).filter (both x y)).Perm [x, y] := by
      refine (List.perm_ext_iff_of_nodup (List.nodup_range.sublist List.filter_sublist) (by simp [hxy])).2 fun z => ?_
      rw [List.mem_filter, List.mem_range, List.mem_cons, List.mem_singleton]
      simp only [both, Bool.or_eq_true, decide_eq_true_eq]
      exact ⟨fun h => h.2, fun h => ⟨h.elim (fun e => e ▸ hx) fun e => e ▸ hy, h⟩⟩
    exact P.length_eq
  omega
/- where nothing is left there is a ring -/
theorem Ok.takeN_pos (h : Ok X) (gone : Nat → Bool) (hn : 0 < X.length) (h0 : takeL X gone = []) : 1 ≤ takeN X gone := by
  have hk : kept X.length gone = [] := by
    have := takeL_len (X := X) gone
    rw [h0] at this
    exact List.length_eq_zero_iff.1 this.symm
  have hr := h.class_rep gone X.length (Nat.le_refl _)
  have h1 : classF X gone X.length 1 = 1 := by
    have := hr.le 1
    have := hr.pos 1 (by omega)
    omega
  unfold takeN ringN
  refine List.countP_pos_iff.2 ⟨0, List.mem_range.2 (by unfold nArcs; omega), ?_⟩
  have : leftB X (classF X gone X.length) gone (0 + 1) = false := by unfold leftB; rw [hk]; rfl
  rw [this]
  simp [h1]
/- a face of two darts lies between two crossings -/
theorem Ok.bigon_of (h : Ok X) {d e : Dt} (hd : Kn.isArc X d.1) (h1 : left X d = e) (h2 : left X e = d) :
    other X ((head X e).1, ((head X e).2 + 3) % 4) = head X d ∧ other X (head X e) = ((head X d).1, ((head X d).2 + 3) % 4) := by
  have he : Kn.isArc X e.1 := h1 ▸ h.isArc_left hd
  have key : ∀ {d : Dt}, Kn.isArc X d.1 → head X (left X d) = other X ((head X d).1, ((head X d).2 + 3) % 4) := fun {d} hd => by
    have hp := isPl_turn (h.isPl_head hd) 3
    show endP X (!(cm X ((head X d).1, ((head X d).2 + 3) % 4))) (arcN X ((head X d).1, ((head X d).2 + 3) % 4)) = _
    rfl
  have k1 := key hd
  have k2 := key he
  rw [h1] at k1
  rw [h2] at k2
  refine ⟨k2.symm, ?_⟩
  rw [k1, h.other_other (isPl_turn (h.isPl_head hd) 3)]
end
end Go.Proofs.YtdelekkbkpldjaaDoor.Kn
