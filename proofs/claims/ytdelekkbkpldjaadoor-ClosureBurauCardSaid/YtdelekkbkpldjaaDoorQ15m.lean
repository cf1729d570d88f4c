/- One less Burau's table, plain: its determinant tells what Alexander tells. -/
import Derived.Test.YtdelekkbkpldjaaDoorQ13
import Derived.Test.YtdelekkbkpldjaaDoorQ14
import Derived.Test.YtdelekkbkpldjaaDoorQ11a
namespace Go.Proofs.YtdelekkbkpldjaaDoor
open Go.RowKit

/- a place of the table 1 less Burau's -/
structure LsE (xs : List Int) (r c : Nat) (e : List Pl.T) : Prop where
  f : Pl.Form e
  s : Pl.size e ≤ 16385
  x : Pl.ExpsW 7 e
  v : ∀ t : Rat, t ≠ 0 → Pl.ev t e = Kn.lessR t xs r c
theorem ev_one (t : Rat) : Pl.ev t [(0, 1)] = 1 := by
  rw [Pl.ev_cons, Pl.ev_nil]
  simp only [Rat.zpow_zero]
  have : ((1 : Int) : Rat) = 1 := rfl
  rw [this]; grind
theorem ev_mone (t : Rat) : Pl.ev t [(0, -1)] = -1 := by
  rw [Pl.ev_cons, Pl.ev_nil]
  simp only [Rat.zpow_zero]
  have : ((-1 : Int) : Rat) = -1 := rfl
  rw [this]; grind
theorem bur_is {xs : List Int} (h7 : xs.length ≤ 7) {r c : Nat} {m : List Pl.T} (hm : Pl.Is m (Kn.burB xs xs.length r c)) : Pl.size m ≤ 16384 ∧ Pl.ExpsW 7 m ∧ ∀ t : Rat, t ≠ 0 → Pl.ev t m = t ^ ((c : Int) - (r : Int)) * Kn.outF t xs Kn.unit c r := by
  have h4 : 4 ^ xs.length ≤ 4 ^ 7 := Nat.pow_le_pow_right (by decide) h7
  have h5 : (4 : Nat) ^ 7 = 16384 := by decide
  refine ⟨?_, fun u hu => ?_, fun t ht => ?_⟩
  · have := Pl.size_form hm.1 hm.2
    have := Kn.bur_size xs xs.length r c
    omega
  · obtain ⟨y, hy, e⟩ := Pl.form_exp hm.1 hm.2 hu
    have := Kn.bur_exps xs xs.length r c y hy
    omega
  · rw [Pl.ev_congr hm.2, Kn.bur_ev ht, Kn.lev_all]
theorem ls_half {xs : List Int} (h7 : xs.length ≤ 7) {r c : Nat} {m e : List Pl.T} (hm : Pl.Is m (Kn.burB xs xs.length r c)) (he : Pl.Is e (Pl.mul m [(0, -1)])) : Pl.size e ≤ 16384 ∧ Pl.ExpsW 7 e ∧ ∀ t : Rat, t ≠ 0 → Pl.ev t e = -(t ^ ((c : Int) - (r : Int)) * Kn.outF t xs Kn.unit c r) := by
  obtain ⟨h1, h2, h3⟩ := bur_is h7 hm
  refine ⟨?_, fun u hu => ?_, fun t ht => ?_⟩
  · have := Pl.size_form he.1 he.2
    rw [Pl.size_mul] at this
    have e1 : Pl.size [((0 : Int), (-1 : Int))] = 1 := rfl
    rw [e1] at this
    omega
  · obtain ⟨y, hy, e⟩ := Pl.form_exp he.1 he.2 hu
    have h0 : Pl.ExpsW 0 [((0 : Int), (-1 : Int))] := fun t ht => by rw [List.mem_singleton] at ht; subst ht; decide
    have := (h2.mul h0) y hy
    omega
  · rw [Pl.ev_congr he.2, Pl.ev_mul ht, h3 t ht, ev_mone]; grind
theorem ls_off {xs : List Int} (h7 : xs.length ≤ 7) {r c : Nat} (hrc : r ≠ c) {m e : List Pl.T} (hm : Pl.Is m (Kn.burB xs xs.length r c)) (he : Pl.Is e (Pl.mul m [(0, -1)])) : LsE xs r c e := by
  obtain ⟨h1, h2, h3⟩ := ls_half h7 hm he
  refine ⟨he.1, by omega, h2, fun t ht => ?_⟩
  rw [h3 t ht]
  unfold Kn.lessR Kn.unit
  rw [if_neg fun e => hrc e.symm]; grind
theorem ls_on {xs : List Int} (h7 : xs.length ≤ 7) {r : Nat} {m e e' : List Pl.T} (hm : Pl.Is m (Kn.burB xs xs.length r r)) (he : Pl.Is e (Pl.mul m [(0, -1)])) (he' : Pl.Is e' (e ++ [(0, 1)])) : LsE xs r r e' := by
  obtain ⟨h1, h2, h3⟩ := ls_half h7 hm he
  refine ⟨he'.1, ?_, fun u hu => ?_, fun t ht => ?_⟩
  · have := Pl.size_form he'.1 he'.2
    rw [Pl.size_app] at this
    have e1 : Pl.size [((0 : Int), (1 : Int))] = 1 := rfl
    rw [e1] at this
    omega
  · obtain ⟨y, hy, e⟩ := Pl.form_exp he'.1 he'.2 hu
    rcases List.mem_append.1 hy with hy | hy
    · have := h2 y hy; omega
    · rw [List.mem_singleton] at hy; subst hy
      have e : (0 : Int) = u.1 := e
      omega
  · rw [Pl.ev_congr he'.2, Pl.ev_app, h3 t ht, ev_one]
    unfold Kn.lessR
    have e1 : Kn.unit r r = 1 := if_pos rfl
    rw [e1]; grind
theorem exps_len {l : List Pl.T} {B : Int} (hf : Pl.Form l) (h : Pl.ExpsW B l) (hB : B ≤ 31) : l.length ≤ 64 := by
  have hl := Pl.form_length (hi := 31) (lo := -31) hf fun u hu => by have := h u hu; omega
  omega
theorem co_size {l : List Pl.T} {u : Pl.T} (hu : u ∈ l) : u.2.natAbs ≤ Pl.size l := by
  induction l with
  | nil => cases hu
  | cons t l ih =>
    rw [Pl.size_cons]
    rcases List.mem_cons.1 hu with rfl | hu
    · omega
    · have := ih hu; omega
theorem may_small {l : List Pl.T} {B : Int} (hf : Pl.Form l) (h : Pl.ExpsW B l) (hB : B ≤ 31) (hs : Pl.size l ≤ 1000000) : Pl.May l :=
  ⟨exps_len hf h hB, hf, fun u hu => by
    have h1 := h u hu
    have h2 := co_size hu
    exact ⟨by omega, by omega⟩⟩
theorem LsE.may {xs : List Int} {r c : Nat} {e : List Pl.T} (h : LsE xs r c e) : Pl.May e ∧ e.length ≤ 17 := by
  refine ⟨may_small h.f h.x (by omega) (by have := h.s; omega), ?_⟩
  have hl := Pl.form_length (hi := 7) (lo := -7) h.f fun u hu => by have := h.x u hu; omega
  omega
/- the table -/
structure LsT (xs : List Int) (k : Nat) (m : Pl.Tab) : Prop where
  rows : m.length = k
  cols : ∀ i, i < k → (m.getD i []).length = k
  ent : ∀ i j, i < k → j < k → LsE xs i j (Pl.ent m i j)
theorem LsT.sqy {xs : List Int} {k : Nat} {m : Pl.Tab} (h : LsT xs k m) (hk : k ≤ 3) : SqY m k := ⟨by omega, h.rows, h.cols, fun i j hi hj => (h.ent i j hi hj).may⟩
theorem LsT.big {xs : List Int} {k : Nat} {m : Pl.Tab} (h : LsT xs k m) (hk : k ≤ 3) (hb : ¬ ∃ l ∈ m.flatten, 100 < Pl.size l) : Sq m k :=
  ⟨by omega, h.rows, h.cols, fun i j hi hj => ⟨(h.ent i j hi hj).may.1, by
    refine Classical.byContradiction fun c => hb ⟨Pl.ent m i j, ?_, by omega⟩
    unfold Pl.ent
    have h1 : i < m.length := by rw [h.rows]; exact hi
    have h2 := h.cols i hi
    have e1 : m.getD i [] = m[i] := by rw [List.getD_eq_getElem?_getD, List.getElem?_eq_getElem h1]; rfl
    have h3 : j < (m.getD i []).length := by rw [h2]; exact hj
    rw [List.getD_eq_getElem?_getD (l := m.getD i []), List.getElem?_eq_getElem h3]
    exact List.mem_flatten.2 ⟨m.getD i [], by rw [e1]; exact List.getElem_mem h1, List.getElem_mem h3⟩, (h.ent i j hi hj).may.2⟩⟩
theorem ent_out {m : Pl.Tab} {k : Nat} (hr : m.length = k) (hc : ∀ i, i < k → (m.getD i []).length = k) {i j : Nat} (h : ¬ (i < k ∧ j < k)) : Pl.ent m i j = [] := by
  unfold Pl.ent
  by_cases hi : i < k
  · have hj : ¬ j < k := fun hj => h ⟨hi, hj⟩
    rw [List.getD_eq_getElem?_getD (l := m.getD i []), List.getElem?_eq_none (by rw [hc i hi]; omega)]; rfl
  · rw [List.getD_eq_getElem?_getD (l := m), List.getElem?_eq_none (by omega)]; rfl
theorem rsz_le {m : Pl.Tab} {i : Nat} (h : ∀ j, Pl.size (Pl.ent m i j) ≤ 100) : ∀ n, Pl.rsz m i n ≤ n * 100
  | 0 => by rw [Pl.rsz]; omega
  | n + 1 => by
    have := rsz_le h n
    have := h n
    rw [Pl.rsz]; omega
theorem LsT.dtb {xs : List Int} {k : Nat} {m : Pl.Tab} (h : LsT xs k m) (hk : k ≤ 3) (hq : Sq m k) : DtB m k 300 7 where
  n10 := by omega
  s1 := by decide
  row := fun i hi => by
    have := rsz_le (m := m) (i := i) (fun j => by
      by_cases c : i < k ∧ j < k
      · exact (hq.ent i j c.1 c.2).2.1
      · rw [ent_out h.rows h.cols c]; exact Nat.zero_le _) k
    omega
  sn := Nat.le_trans (Nat.pow_le_pow_right (by decide) hk) (by decide)
  ex := fun i j => by
    by_cases c : i < k ∧ j < k
    · exact (h.ent i j c.1 c.2).x
    · rw [ent_out h.rows h.cols c]; intro t ht; cases ht
  en := by omega
theorem LsT.dev {xs : List Int} {k : Nat} {m : Pl.Tab} (h : LsT xs k m) (h1 : 1 ≤ k) (h3 : k ≤ 3) {t : Rat} (ht : t ≠ 0) : Kn.Eu t (Pl.ev t (Pl.dt m k (2 ^ k - 1))) (Kn.AL t (k + 1) xs) := by
  have e1 := Pl.det_ev ht (m := m) (n := k) (by omega)
  have e2 : Kn.Dv ((List.range k).map (Pl.rowF t m)) (List.range k) = Kn.Dv ((List.range k).map (Kn.lessR t xs)) (List.range k) := by
    refine Kn.Dv_congr (by simp) fun i v hv => ?_
    have hv := List.mem_range.1 hv
    by_cases hi : i < k
    · simp only [List.getD_eq_getElem?_getD, List.getElem?_map, List.getElem?_range hi, Option.map_some, Option.getD_some]
      exact (h.ent i v hi hv).v t ht
    · simp [List.getD_eq_getElem?_getD, hi]
  rw [e2] at e1
  have e3 := Kn.AL_is (t := t) (n := k + 1) (by omega) xs
  rw [Nat.add_sub_cancel] at e3
  exact e1.trans ht ((Kn.less_det ht xs h1 h3).trans ht (e3.symm ht))
theorem det_facts {m : Pl.Tab} {k : Nat} (hB : DtB m k 300 7) (hk : k ≤ 3) {f : List Pl.T} (hi : Pl.Is f (Pl.dt m k (2 ^ k - 1))) : Pl.ExpsW 21 f := fun u hu => by
  have h2 := Nat.two_pow_pos k
  have e1 := hB.exps (s := 2 ^ k - 1) (by omega)
  obtain ⟨y, hy, e⟩ := Pl.form_exp hi.1 hi.2 hu
  have := e1 y hy
  omega
/- what Det gives may be handed to Unit, and Unit gives Alexander's -/
theorem bur_may {n k : Nat} {xs : List Int} {A : List Nat} {N : Nat × Nat → Nat} (hN : Kn.Clo xs A N) (hw : Kn.LetsM n xs) (hk : n = k + 1) (h1 : 1 ≤ k) (h3 : k ≤ 3) (h7 : xs.length ≤ 7) {m : Pl.Tab} (h : LsT xs k m) (hB : DtB m k 300 7) {f a : List Pl.T} (hf : Pl.Is f (Pl.dt m k (2 ^ k - 1))) (ha : Kn.AlexIs (Kn.closX xs A) (LpC n xs) a) (hs : Pl.size a ≤ 4 ^ xs.length) :
    Pl.May f ∧ ∀ c, NrmOf f c → a = c := by
  have key : ∀ t : Rat, t ≠ 0 → Kn.Eu t (Pl.ev t f) (Pl.ev t a) := fun t ht => by
    rw [Pl.ev_congr hf.2]
    refine (h.dev h1 h3 ht).trans ht ?_
    have e := hN.alex hw (by omega) ht
    rw [hk] at e ha
    exact (e.symm ht).trans ht ((ha.2 t ht).symm ht)
  have hz := nrm_size hf.1 ha.1 key
  have h4 : 4 ^ xs.length ≤ 4 ^ 7 := Nat.pow_le_pow_right (by decide) h7
  have h5 : (4 : Nat) ^ 7 = 16384 := by decide
  refine ⟨may_small hf.1 (det_facts hB h3 hf) (by omega) (by omega), fun c hc => ?_⟩
  exact Kn.nrm_eu ha.1 hc.1 fun t ht => ((key t ht).symm ht).trans ht ((hc.2.2 t ht).symm ht)
end Go.Proofs.YtdelekkbkpldjaaDoor
