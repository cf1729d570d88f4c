/- Plain mathematics of diagrams, joined. -/
import Derived.Test.YtcfpdeeipbekfaaMAlla
/- Unknowns that rows tell to be the same are merged, plain. -/
namespace Go.Proofs.Ytcfpdeeipbekfaa.Kn
set_option linter.unusedVariables false

/-- The row that tells that two unknowns are the same. -/
def eqr (e : Nat × Nat) : Row := fun v => unit e.1 v - unit e.2 v
/-- What pairs tie together. -/
inductive Tie (E : List (Nat × Nat)) : Nat → Nat → Prop
  | refl (x) : Tie E x x
  | pair {x y} : (x, y) ∈ E → Tie E x y
  | symm {x y} : Tie E x y → Tie E y x
  | trans {x y z} : Tie E x y → Tie E y z → Tie E x z
theorem Tie.map {E E' : List (Nat × Nat)} {f : Nat → Nat} (h : ∀ x y, (x, y) ∈ E → Tie E' (f x) (f y)) {x y : Nat} (k : Tie E x y) : Tie E' (f x) (f y) := by
  induction k with
  | refl => exact .refl _
  | pair h' => exact h _ _ h'
  | symm _ ih => exact ih.symm
  | trans _ _ a b => exact a.trans b
/-- Unknowns vs, of which E tells which are the same; q leads to the unknowns ws. -/
structure Quo (vs : List Nat) (E : List (Nat × Nat)) (q : Nat → Nat) (ws : List Nat) : Prop where
  vn : vs.Nodup
  wn : ws.Nodup
  into : ∀ v ∈ vs, q v ∈ ws
  onto : ∀ w ∈ ws, ∃ v ∈ vs, q v = w
  ends : ∀ e ∈ E, e.1 ∈ vs ∧ e.2 ∈ vs
  same : ∀ e ∈ E, q e.1 = q e.2
  ker : ∀ u ∈ vs, ∀ v ∈ vs, q u = q v → Tie E u v
def psh (vs : List Nat) (q : Nat → Nat) (r : Row) : Row := fun w => ((vs.filter fun v => q v == w).map r).sum

theorem Tie.nil_eq {x y : Nat} (h : Tie [] x y) : x = y := by
  induction h with
  | refl => rfl
  | pair h => exact nomatch h
  | symm _ ih => exact ih.symm
  | trans _ _ a b => exact a.trans b

def sub1 (a b x : Nat) : Nat := if x = a then b else x
def mg (a b : Nat) (s : Row) : Row := fun v => s v + s a * unit b v
theorem Quo.step {vs : List Nat} {a b : Nat} {E : List (Nat × Nat)} {q : Nat → Nat} {ws : List Nat} (h : Quo vs ((a, b) :: E) q ws) (hab : a ≠ b) :
    Quo (vs.erase a) (E.map fun e => (sub1 a b e.1, sub1 a b e.2)) q ws := by
  have hq : q a = q b := h.same (a, b) List.mem_cons_self
  have hb : b ∈ vs.erase a := (List.mem_erase_of_ne (fun e => hab e.symm)).2 (h.ends (a, b) List.mem_cons_self).2
  have hf : ∀ x, q (sub1 a b x) = q x := fun x => by
    show q (if x = a then b else x) = q x
    by_cases e : x = a
    · rw [if_pos e, e, hq]
    · rw [if_neg e]
  have hm : ∀ x ∈ vs, sub1 a b x ∈ vs.erase a := fun x hx => by
    show (if x = a then b else x) ∈ vs.erase a
    by_cases e : x = a
    · rw [if_pos e]; exact hb
    · rw [if_neg e]; exact (List.mem_erase_of_ne e).2 hx
  refine ⟨h.vn.sublist List.erase_sublist, h.wn, fun v hv => h.into v (List.mem_of_mem_erase hv), fun w hw => ?_, ?_, ?_, ?_⟩
  · obtain ⟨v, hv, rfl⟩ := h.onto w hw
    exact ⟨sub1 a b v, hm v hv, hf v⟩
  · intro e he
    obtain ⟨d, hd, rfl⟩ := List.mem_map.1 he
    have := h.ends d (List.mem_cons_of_mem _ hd)
    exact ⟨hm _ this.1, hm _ this.2⟩
  · intro e he
    obtain ⟨d, hd, rfl⟩ := List.mem_map.1 he
    rw [hf, hf]
    exact h.same d (List.mem_cons_of_mem _ hd)
  · intro u hu v hv e
    have k := h.ker u (List.mem_of_mem_erase hu) v (List.mem_of_mem_erase hv) e
    have fx : ∀ x ∈ vs.erase a, sub1 a b x = x := fun x hx => if_neg (h.vn.mem_erase_iff.1 hx).1
    rw [← fx u hu, ← fx v hv]
    refine k.map fun x y hxy => ?_
    rcases List.mem_cons.1 hxy with e | e
    · obtain ⟨rfl, rfl⟩ := Prod.mk.inj e
      have : sub1 x y x = sub1 x y y := by unfold sub1; rw [if_pos rfl, if_neg fun e => hab e.symm]
      rw [this]; exact .refl _
    · exact .pair (List.mem_map.2 ⟨(x, y), e, rfl⟩)

theorem nodup_map {q : Nat → Nat} : ∀ {vs : List Nat}, vs.Nodup → (∀ x ∈ vs, ∀ y ∈ vs, q x = q y → x = y) → (vs.map q).Nodup
  | [], _, _ => List.nodup_nil
  | a :: vs, hn, h => List.nodup_cons.2 ⟨fun hm => by
      obtain ⟨y, hy, e⟩ := List.mem_map.1 hm
      exact (List.nodup_cons.1 hn).1 (h a List.mem_cons_self y (List.mem_cons_of_mem _ hy) e.symm ▸ hy), nodup_map (List.nodup_cons.1 hn).2 fun x hx y hy => h x (List.mem_cons_of_mem _ hx) y (List.mem_cons_of_mem _ hy)⟩
theorem Quo.nil {vs : List Nat} {q : Nat → Nat} {ws : List Nat} (h : Quo vs [] q ws) : (vs.map q).Perm ws := by
  refine (List.perm_ext_iff_of_nodup ?_ h.wn).2 fun w => ⟨fun hw => ?_, fun hw => ?_⟩
  · exact nodup_map h.vn fun x hx y hy e => (h.ker x hx y hy e).nil_eq
  · obtain ⟨v, hv, rfl⟩ := List.mem_map.1 hw
    exact h.into v hv
  · obtain ⟨v, hv, rfl⟩ := h.onto w hw
    exact List.mem_map.2 ⟨v, hv, rfl⟩

/-- There are no fewer pairs than unknowns merged. -/
theorem Quo.le : ∀ {E : List (Nat × Nat)} {vs : List Nat} {q : Nat → Nat} {ws : List Nat}, Quo vs E q ws → vs.length ≤ ws.length + E.length
  | [], vs, q, ws, h => by have := h.nil.length_eq; simp at this; simp [this]
  | (a, b) :: E, vs, q, ws, h => by
    by_cases hab : a = b
    · subst hab
      have h' : Quo vs E q ws := ⟨h.vn, h.wn, h.into, h.onto, fun e he => h.ends e (List.mem_cons_of_mem _ he), fun e he => h.same e (List.mem_cons_of_mem _ he), fun u hu v hv e =>
        (h.ker u hu v hv e).map (f := fun x => x) fun x y hxy => by
          rcases List.mem_cons.1 hxy with e | e
          · obtain ⟨rfl, rfl⟩ := Prod.mk.inj e; exact .refl _
          · exact .pair e⟩
      have := Quo.le h'
      simp only [List.length_cons]
      omega
    · have := Quo.le (h.step hab)
      have hl : (vs.erase a).length = vs.length - 1 := List.length_erase_of_mem (h.ends (a, b) List.mem_cons_self).1
      simp only [List.length_cons, List.length_map] at this ⊢
      omega
  termination_by E => E.length
  decreasing_by all_goals simp

theorem psh_step {vs : List Nat} (hn : vs.Nodup) {a b : Nat} (ha : a ∈ vs) (hab : a ≠ b) (hb : b ∈ vs) {q : Nat → Nat} (hq : q a = q b) (s : Row) (w : Nat) :
    psh (vs.erase a) q (mg a b s) w = psh vs q s w := by
  unfold psh
  have hp := List.perm_cons_erase ha
  have h1 := sum_perm (hp.filter fun v => q v == w) s
  rw [h1, show (fun v => q v == w) = fun v => q v == w from rfl]
  have hmg : ∀ l : List Nat, (l.map (mg a b s)).sum = (l.map s).sum + s a * (l.map (unit b)).sum := by
    intro l
    rw [← sum_smul, ← sum_add]
    rfl
  rw [hmg]
  have hcount : ∀ l : List Nat, l.Nodup → (l.map (unit b)).sum = if b ∈ l then 1 else 0 := by
    intro l hl
    induction l with
    | nil => simp
    | cons c l ih =>
      rw [List.map_cons, List.sum_cons, ih (List.nodup_cons.1 hl).2, unit]
      by_cases hc : c = b
      · subst hc; rw [if_pos rfl, if_neg (List.nodup_cons.1 hl).1, if_pos List.mem_cons_self]; grind
      · rw [if_neg hc]
        by_cases hbl : b ∈ l
        · rw [if_pos hbl, if_pos (List.mem_cons_of_mem _ hbl)]; grind
        · rw [if_neg hbl, if_neg fun hm => (List.mem_cons.1 hm).elim (fun e => hc e.symm) hbl]; grind
  rw [hcount _ ((hn.sublist List.erase_sublist).sublist List.filter_sublist)]
  have hbe : b ∈ vs.erase a := (List.mem_erase_of_ne (fun e => hab e.symm)).2 hb
  by_cases hw : q a = w
  · have hbw : b ∈ (vs.erase a).filter fun v => q v == w := List.mem_filter.2 ⟨hbe, by simp [← hq, hw]⟩
    rw [if_pos hbw, List.filter_cons_of_pos (by simp [hw]), List.map_cons, List.sum_cons]
    grind
  · have hbw : b ∉ (vs.erase a).filter fun v => q v == w := fun hm => hw (by have := (List.mem_filter.1 hm).2; simp at this; rw [hq, this])
    rw [if_neg hbw, List.filter_cons_of_neg (by simp [hw])]
    grind

theorem map_getD (f : Row → Row) (l : List Row) (i : Nat) (h : i < l.length) : (l.map f).getD i (fun _ => 0) = f (l.getD i fun _ => 0) := by
  simp [List.getD_eq_getElem?_getD, List.getElem?_eq_getElem h]
theorem Dv_map {f g : Row → Row} {vs : List Nat} (rs : List Row) (h : ∀ r ∈ rs, ∀ v ∈ vs, f r v = g r v) : Dv (rs.map f) vs = Dv (rs.map g) vs :=
  Dv_congr (by simp) fun i v hv => by
    by_cases hi : i < rs.length
    · rw [map_getD f rs i hi, map_getD g rs i hi]
      have : rs.getD i (fun _ => 0) ∈ rs := by rw [List.getD_eq_getElem?_getD, List.getElem?_eq_getElem hi]; exact List.getElem_mem hi
      exact h _ this v hv
    · simp [List.getD_eq_getElem?_getD, List.getElem?_eq_none (Nat.le_of_not_lt hi)]

/-- Merged: what is left is the determinant over what the unknowns lead to, if each pair merges two; else nothing. -/
theorem Dv_merge : ∀ {E : List (Nat × Nat)} {vs : List Nat} {q : Nat → Nat} {ws : List Nat}, Quo vs E q ws →
    (vs.length = ws.length + E.length → ∃ e, Sg e ∧ ∀ rs, Dv (E.map eqr ++ rs) vs = e * Dv (rs.map (psh vs q)) ws) ∧ (vs.length ≠ ws.length + E.length → ∀ rs, Dv (E.map eqr ++ rs) vs = 0)
  | [], vs, q, ws, h => by
    have hl := h.nil.length_eq
    have hl : vs.length = ws.length := by simpa using hl
    refine ⟨fun _ => ?_, fun hn => absurd hl (by simpa using hn)⟩
    obtain ⟨e, he, k⟩ := Dv_cols h.nil.symm
    refine ⟨e, he, fun rs => ?_⟩
    have he2 : e * e = 1 := by rcases he with rfl | rfl <;> grind
    have : Dv (rs.map (psh vs q)) (vs.map q) = Dv rs vs := by
      have hinj : ∀ x ∈ vs, ∀ y ∈ vs, q x = q y → x = y := fun x hx y hy e => (h.ker x hx y hy e).nil_eq
      have hp : ∀ r : Row, ∀ v ∈ vs, psh vs q r (q v) = r v := by
        intro r v hv
        unfold psh
        have : vs.filter (fun u => q u == q v) = [v] := by
          have h1 : vs.filter (fun u => q u == q v) = vs.filter (fun u => u == v) := List.filter_congr fun u hu => by
            by_cases e : u = v
            · simp [e]
            · rw [beq_eq_false_iff_ne.2 e, beq_eq_false_iff_ne.2 fun k => e (hinj u hu v hv k)]
          rw [h1, List.filter_beq]
          have := h.vn.count (a := v)
          rw [this, if_pos hv]; rfl
        rw [this]; simp; grind
      have key : ∀ (us : List Nat), (∀ u ∈ us, u ∈ vs) → ∀ rs : List Row, Dv (rs.map (psh vs q)) (us.map q) = Dv rs us := by
        intro us hus rs
        have hD : ∀ (rs : List Row) (us : List Nat), Dv rs (us.map q) = D (rs.map fun r v => r (q v)) (rd us) := by
          intro rs
          have : ∀ (f : List (Row → Rat) → Rat) (g : List (Row → Rat) → Rat) (r : Row) (us : List Nat), (∀ us : List Nat, f (rd (us.map q)) = g (rd us)) → lap r f (rd (us.map q)) = lap (fun v => r (q v)) g (rd us) := by
            intro f g r us
            induction us generalizing f g with
            | nil => intro _; rfl
            | cons u us ih =>
              intro hfg
              have := ih (fun l => f ((fun r => r (q u)) :: l)) (fun l => g ((fun r => r u) :: l)) fun us => hfg (u :: us)
              show r (q u) * f (rd (us.map q)) - lap r (fun l => f ((fun r => r (q u)) :: l)) (rd (us.map q)) = r (q u) * g (rd us) - lap (fun v => r (q v)) (fun l => g ((fun r => r u) :: l)) (rd us)
              rw [hfg, this]
          induction rs with
          | nil => intro us; simp [Dv, D, rd]
          | cons r rs ih => intro us; exact this (D rs) (D (rs.map fun (r : Row) v => r (q v))) r us ih
        rw [hD, List.map_map]
        have := Dv_map (f := fun r v => psh vs q r (q v)) (g := fun r => r) (vs := us) rs fun r _ v hv => hp r v (hus v hv)
        rw [List.map_id'] at this
        exact this
      exact key vs (fun u hu => hu) rs
    have hk := k (rs.map (psh vs q))
    show Dv rs vs = _
    rw [hk, this]
    grind
  | (a, b) :: E, vs, q, ws, h => by
    have hl := h.le
    by_cases hab : a = b
    · subst hab
      have h' : Quo vs E q ws := ⟨h.vn, h.wn, h.into, h.onto, fun e he => h.ends e (List.mem_cons_of_mem _ he), fun e he => h.same e (List.mem_cons_of_mem _ he), fun u hu v hv e =>
        (h.ker u hu v hv e).map (f := fun x => x) fun x y hxy => by
          rcases List.mem_cons.1 hxy with e | e
          · obtain ⟨rfl, rfl⟩ := Prod.mk.inj e; exact .refl _
          · exact .pair e⟩
      have := h'.le
      simp only [List.length_cons] at *
      refine ⟨fun e => by omega, fun _ rs => Dv_zero (fun v _ => ?_) _⟩
      show unit a v - unit a v = 0
      grind
    · have hs := h.step hab
      have hav : a ∈ vs := (h.ends (a, b) List.mem_cons_self).1
      have hbv : b ∈ vs := (h.ends (a, b) List.mem_cons_self).2
      have hlen : (vs.erase a).length + 1 = vs.length := by
        have := List.length_erase_of_mem hav
        have : 0 < vs.length := List.length_pos_of_mem hav
        omega
      obtain ⟨k1, k2⟩ := Dv_merge hs
      obtain ⟨e, he, kc⟩ := Dv_cols (List.perm_cons_erase hav)
      have hu : unit a b = 0 := if_neg fun e => hab e.symm
      have haa : eqr (a, b) a = 1 := by
        show unit a a - unit b a = 1
        rw [show unit a a = 1 from if_pos rfl, show unit b a = 0 from if_neg hab]; grind
      have hne : eqr (a, b) a ≠ 0 := by rw [haa]; grind
      have main : ∀ rs, Dv (((a, b) :: E).map eqr ++ rs) vs = e * Dv ((E.map fun e => (sub1 a b e.1, sub1 a b e.2)).map eqr ++ rs.map (mg a b)) (vs.erase a) := by
        intro rs
        rw [kc]
        show e * Dv (eqr (a, b) :: (E.map eqr ++ rs)) (a :: vs.erase a) = _
        rw [Dv_out hne, haa]
        have hr : ∀ r : Row, ∀ v ∈ vs.erase a, r v - r a / 1 * eqr (a, b) v = mg a b r v := by
          intro r v hv
          have hva : v ≠ a := (h.vn.mem_erase_iff.1 hv).1
          show r v - r a / 1 * (unit a v - unit b v) = r v + r a * unit b v
          rw [show unit a v = 0 from if_neg hva]
          grind
        have h1 := Dv_map (f := fun s v => s v - s a / 1 * eqr (a, b) v) (g := mg a b) (vs := vs.erase a) (E.map eqr ++ rs) fun r _ v hv => hr r v hv
        rw [h1, List.map_append, List.map_map, List.map_map]
        have h2 : Dv (E.map (mg a b ∘ eqr) ++ rs.map (mg a b)) (vs.erase a) = Dv (E.map (eqr ∘ fun e => (sub1 a b e.1, sub1 a b e.2)) ++ rs.map (mg a b)) (vs.erase a) :=
          Dv_congr (by simp) fun i v hv => by
            have hva : v ≠ a := (h.vn.mem_erase_iff.1 hv).1
            by_cases hi : i < E.length
            · simp only [List.getD_eq_getElem?_getD]
              rw [List.getElem?_append_left (by simpa using hi), List.getElem?_append_left (by simpa using hi)]
              simp only [List.getElem?_map, List.getElem?_eq_getElem hi, Option.map_some, Option.getD_some, Function.comp]
              show (unit E[i].1 v - unit E[i].2 v) + (unit E[i].1 a - unit E[i].2 a) * unit b v = unit (sub1 a b E[i].1) v - unit (sub1 a b E[i].2) v
              have hx : ∀ x, unit (sub1 a b x) v = unit x v + unit x a * unit b v := by
                intro x
                unfold sub1
                by_cases e : x = a
                · subst e; rw [if_pos rfl, show unit x v = 0 from if_neg hva, show unit x x = 1 from if_pos rfl]; grind
                · rw [if_neg e, show unit x a = 0 from if_neg fun k => e k.symm]; grind
              rw [hx, hx]; grind
            · simp only [List.getD_eq_getElem?_getD]
              rw [List.getElem?_append_right (by simpa using hi), List.getElem?_append_right (by simpa using hi)]
              simp
        rw [h2]; grind
      have hpsh : ∀ rs : List Row, Dv ((rs.map (mg a b)).map (psh (vs.erase a) q)) ws = Dv (rs.map (psh vs q)) ws := by
        intro rs
        rw [List.map_map]
        exact Dv_map rs fun r _ w _ => psh_step h.vn hav hab hbv (h.same (a, b) List.mem_cons_self) r w
      refine ⟨fun hlen' => ?_, fun hlen' rs => ?_⟩
      · obtain ⟨e', he', k'⟩ := k1 (by simp only [List.length_cons, List.length_map] at hlen' ⊢; omega)
        refine ⟨e * e', he.mul he', fun rs => ?_⟩
        rw [main, k', hpsh]; grind
      · rw [main, k2 (by simp only [List.length_cons, List.length_map] at hlen' ⊢; omega)]
        grind
  termination_by E => E.length
  decreasing_by all_goals simp
end Go.Proofs.Ytcfpdeeipbekfaa.Kn

/- The rows of a closed word's levels, plain: solved for, they tell one less the word's table; merged, they are the rows of the diagram. -/
namespace Go.Proofs.Ytcfpdeeipbekfaa.Kn
set_option linter.unusedVariables false

/-- One level on: the forms of the places behind a letter. -/
def stepF (t : Rat) (a : Int) (x : Nat → Row) : Nat → Row := fun p =>
  let i := a.natAbs - 1
  if 0 < a then (if p = i then fun b => t * x (i + 1) b + (1 - t) * x i b else if p = i + 1 then x i else x p)
  else (if p = i then x (i + 1) else if p = i + 1 then fun b => t⁻¹ * (x i b + (t - 1) * x (i + 1) b) else x p)
/-- Where the row of the strand below stands, and what the other places are the same as. -/
def lowAt (a : Int) : Nat := if 0 < a then a.natAbs - 1 else a.natAbs
def sameAs (a : Int) (p : Nat) : Nat := if 0 < a then (if p = a.natAbs then a.natAbs - 1 else p) else (if p = a.natAbs - 1 then a.natAbs else p)
structure Let (n : Nat) (a : Int) : Prop where
  ne : a ≠ 0
  lt : a.natAbs < n

theorem put_lin (vs : List Nat) (X : Nat → Row) (r s : Row) (a b : Rat) (z : Nat) : put vs X (fun v => a * r v + b * s v) z = a * put vs X r z + b * put vs X s z := by
  unfold put
  rw [show (fun v => (a * r v + b * s v) * X v z) = fun v => a * (r v * X v z) + b * (s v * X v z) from funext fun v => by grind, sum_add, sum_smul, sum_smul]
theorem put_unit {vs : List Nat} (hn : vs.Nodup) (X : Nat → Row) {b : Nat} (hb : b ∈ vs) (z : Nat) : put vs X (unit b) z = X b z := by
  have key : ∀ l : List Nat, l.Nodup → put l X (unit b) z = if b ∈ l then X b z else 0 := by
    intro l hl
    induction l with
    | nil => simp [put]
    | cons c l ih =>
      rw [put_cons, ih (List.nodup_cons.1 hl).2, unit]
      by_cases hc : c = b
      · subst hc; rw [if_pos rfl, if_neg (List.nodup_cons.1 hl).1, if_pos List.mem_cons_self]; grind
      · rw [if_neg hc]
        by_cases hbl : b ∈ l
        · rw [if_pos hbl, if_pos (List.mem_cons_of_mem _ hbl)]; grind
        · rw [if_neg hbl, if_neg fun hm => (List.mem_cons.1 hm).elim (fun e => hc e.symm) hbl]; grind
  rw [key vs hn, if_pos hb]
theorem put_eqr {vs : List Nat} (hn : vs.Nodup) (X : Nat → Row) {e : Nat × Nat} (h1 : e.1 ∈ vs) (h2 : e.2 ∈ vs) (z : Nat) : put vs X (eqr e) z = X e.1 z - X e.2 z := by
  have := put_lin vs X (unit e.1) (unit e.2) 1 (-1) z
  rw [put_unit hn X h1, put_unit hn X h2] at this
  rw [show eqr e = fun v => 1 * unit e.1 v + -1 * unit e.2 v from funext fun v => by unfold eqr; grind, this]
  grind
theorem put_three {vs : List Nat} (hn : vs.Nodup) (X : Nat → Row) {a b c : Nat} (ha : a ∈ vs) (hb : b ∈ vs) (hc : c ∈ vs) (m l : Rat) (z : Nat) :
    put vs X (fun v => unit a v + m * unit b v + l * unit c v) z = X a z + m * X b z + l * X c z := by
  have h1 := put_lin vs X (unit a) (unit b) 1 m z
  have h2 := put_lin vs X (fun v => 1 * unit a v + m * unit b v) (unit c) 1 l z
  rw [put_unit hn X ha, put_unit hn X hb] at h1
  rw [put_unit hn X hc, h1] at h2
  rw [show (fun v => unit a v + m * unit b v + l * unit c v) = fun v => 1 * (1 * unit a v + m * unit b v) + l * unit c v from funext fun v => by grind, h2]
  grind

end Go.Proofs.Ytcfpdeeipbekfaa.Kn

/- The rows of a closed word's levels, plain: what is left out may be exchanged. -/
namespace Go.Proofs.Ytcfpdeeipbekfaa.Kn
set_option linter.unusedVariables false

/-- Units: powers of t, but for their sign. -/
def Un (t x : Rat) : Prop := ∃ (e : Rat) (m : Int), Sg e ∧ x = e * t ^ m
theorem Un.one (t : Rat) : Un t 1 := ⟨1, 0, Or.inl rfl, by simp⟩
theorem Un.neg_one (t : Rat) : Un t (-1) := ⟨-1, 0, Or.inr rfl, by simp⟩
theorem Un.sg {t e : Rat} (h : Sg e) : Un t e := by rcases h with rfl | rfl; exact .one t; exact .neg_one t
theorem Un.self (t : Rat) : Un t t := ⟨1, 1, Or.inl rfl, by rw [Rat.zpow_one]; grind⟩
theorem Un.mul {t x y : Rat} (ht : t ≠ 0) (h : Un t x) (k : Un t y) : Un t (x * y) := by
  obtain ⟨e, m, he, rfl⟩ := h
  obtain ⟨e', m', he', rfl⟩ := k
  exact ⟨e * e', m + m', he.mul he', by rw [Rat.zpow_add ht]; grind⟩
theorem Un.ne {t x : Rat} (ht : t ≠ 0) (h : Un t x) : x ≠ 0 := by
  obtain ⟨e, m, he, rfl⟩ := h
  intro k
  have h1 : t ^ (m + -m) = t ^ m * t ^ (-m) := Rat.zpow_add ht m (-m)
  rw [Int.add_right_neg, Rat.zpow_zero] at h1
  rcases he with rfl | rfl <;> grind
theorem Un.inv {t x : Rat} (ht : t ≠ 0) (h : Un t x) : ∃ y, Un t y ∧ y * x = 1 := by
  obtain ⟨e, m, he, rfl⟩ := h
  refine ⟨e * t ^ (-m), ⟨e, -m, he, rfl⟩, ?_⟩
  have h1 : t ^ (m + -m) = t ^ m * t ^ (-m) := Rat.zpow_add ht m (-m)
  rw [Int.add_right_neg, Rat.zpow_zero] at h1
  rcases he with rfl | rfl <;> grind
theorem Un.neg {t x : Rat} (ht : t ≠ 0) (h : Un t x) : Un t (-x) := by
  have := (Un.neg_one t).mul ht h
  rwa [show -1 * x = -x by grind] at this
theorem Un.prd {t : Rat} (ht : t ≠ 0) : ∀ {l : List Rat}, (∀ x ∈ l, Un t x) → Un t (Kn.prd l)
  | [], _ => .one t
  | x :: l, h => (h x List.mem_cons_self).mul ht (Un.prd ht fun y hy => h y (List.mem_cons_of_mem _ hy))
/-- The same but for a unit. -/
def Eu (t x y : Rat) : Prop := ∃ c, Un t c ∧ x = c * y
theorem Eu.refl (t x : Rat) : Eu t x x := ⟨1, .one t, by grind⟩
theorem Eu.symm {t x y : Rat} (ht : t ≠ 0) (h : Eu t x y) : Eu t y x := by
  obtain ⟨c, hc, rfl⟩ := h
  obtain ⟨d, hd, e⟩ := hc.inv ht
  exact ⟨d, hd, by grind⟩
theorem Eu.trans {t x y z : Rat} (ht : t ≠ 0) (h : Eu t x y) (k : Eu t y z) : Eu t x z := by
  obtain ⟨c, hc, rfl⟩ := h
  obtain ⟨d, hd, rfl⟩ := k
  exact ⟨c * d, hc.mul ht hd, by grind⟩
theorem Eu.un {t c y : Rat} (h : Un t c) : Eu t (c * y) y := ⟨c, h, rfl⟩
theorem Eu.zero {t x : Rat} (h : Eu t x 0) : x = 0 := by obtain ⟨c, _, rfl⟩ := h; grind
theorem Eu.rows {t : Rat} {rs rs' : List Row} (h : rs.Perm rs') (vs : List Nat) : Eu t (Dv rs vs) (Dv rs' vs) := by
  obtain ⟨e, he, k⟩ := Dv_rows h
  exact ⟨e, .sg he, k vs⟩

theorem Sp.congr {vs : List Nat} {rs : List Row} {u w : Row} (h : Sp vs rs u) (e : ∀ v ∈ vs, w v = u v) : Sp vs rs w := by
  cases h with
  | zero h => exact .zero fun v hv => by rw [e v hv, h v hv]
  | add m h hr hw => exact .add m h hr fun v hv => by rw [e v hv, hw v hv]
theorem Sp.plus {vs : List Nat} {rs : List Row} {u w : Row} (h : Sp vs rs u) (k : Sp vs rs w) : Sp vs rs fun v => u v + w v := by
  induction k with
  | zero k => exact h.congr fun v hv => by rw [k v hv]; grind
  | add m _ hr hw ih => exact .add m ih hr fun v hv => by rw [hw v hv]; grind
theorem Sp.smul {vs : List Nat} {rs : List Row} {u : Row} (c : Rat) (h : Sp vs rs u) : Sp vs rs fun v => c * u v := by
  induction h with
  | zero k => exact .zero fun v hv => by rw [k v hv]; grind
  | add m _ hr hw ih => exact .add (c * m) ih hr fun v hv => by rw [hw v hv]; grind
theorem Sp.mem {vs : List Nat} {rs : List Row} {r : Row} (h : r ∈ rs) : Sp vs rs r := .add 1 (.zero (u := fun _ => 0) fun _ _ => rfl) h fun v _ => by grind
theorem Sp.mono {vs : List Nat} {rs rs' : List Row} {u : Row} (h : Sp vs rs u) (k : ∀ r ∈ rs, r ∈ rs') : Sp vs rs' u := by
  induction h with
  | zero h => exact .zero h
  | add m _ hr hw ih => exact .add m ih (k _ hr) hw
theorem Sp.sum {vs : List Nat} {rs : List Row} (c : Nat → Rat) (r : Nat → Row) : ∀ l : List Nat, (∀ p ∈ l, r p ∈ rs) → Sp vs rs fun v => (l.map fun p => c p * r p v).sum
  | [], _ => .zero fun v _ => rfl
  | p :: l, h => (((Sp.mem (h p List.mem_cons_self)).smul (c p)).plus (Sp.sum c r l fun q hq => h q (List.mem_cons_of_mem _ hq))).congr fun v _ => by simp
theorem sum_two {g h : Nat → Rat} {i : Nat} : ∀ {n : Nat}, i + 1 < n → (∀ p, p < n → p ≠ i → p ≠ i + 1 → g p = h p) → g i + g (i + 1) = h i + h (i + 1) → ((List.range n).map g).sum = ((List.range n).map h).sum
  | 0, hi, _, _ => by omega
  | n + 1, hi, he, h2 => by
    rw [List.range_succ, List.map_append, List.map_append, List.sum_append, List.sum_append]
    simp only [List.map_cons, List.map_nil, List.sum_cons, List.sum_nil]
    by_cases hn : n = i + 1
    · subst hn
      have : ((List.range i).map g).sum = ((List.range i).map h).sum := sum_congr fun p hp => he p (by have := List.mem_range.1 hp; omega) (by have := List.mem_range.1 hp; omega) (by have := List.mem_range.1 hp; omega)
      rw [List.range_succ, List.map_append, List.map_append, List.sum_append, List.sum_append, this]
      simp only [List.map_cons, List.map_nil, List.sum_cons, List.sum_nil]
      grind
    · rw [sum_two (by omega) (fun p hp => he p (by omega)) h2, he n (by omega) (by omega) (by omega)]

def wt (t : Rat) (a : Int) (p : Nat) : Rat := if p = lowAt a then (if 0 < a then t ^ (a.natAbs - 1) else - t ^ (a.natAbs - 1)) else if p = a.natAbs - 1 ∨ p = a.natAbs then t ^ (a.natAbs - 1) else t ^ p
end Go.Proofs.Ytcfpdeeipbekfaa.Kn

/- A closed word's rows all together, plain: what they tell is what the word's table tells; merged, it is what the diagram's rows tell. -/
namespace Go.Proofs.Ytcfpdeeipbekfaa.Kn
set_option linter.unusedVariables false

abbrev lv (n k : Nat) : Nat → Nat := fun p => k * n + p
def VV (n : Nat) (w : List Int) : List Nat := List.range ((w.length + 1) * n)
def but (n p : Nat) : List Nat := (List.range n).erase p
theorem lv_div {n k p : Nat} (hp : p < n) : lv n k p / n = k ∧ lv n k p % n = p := by
  have hn : 0 < n := by omega
  show (k * n + p) / n = k ∧ (k * n + p) % n = p
  rw [Nat.mul_comm k, Nat.mul_add_div hn, Nat.div_eq_of_lt hp, Nat.mul_add_mod, Nat.mod_eq_of_lt hp]
  exact ⟨rfl, rfl⟩
end Go.Proofs.Ytcfpdeeipbekfaa.Kn

/- A closed word's rows, plain: merged, and told by the diagram's rows. -/
namespace Go.Proofs.Ytcfpdeeipbekfaa.Kn
set_option linter.unusedVariables false

def EB (n : Nat) (w : List Int) (m : Nat) : List (Nat × Nat) := (List.range m).flatMap fun k => (but n (lowAt (w.getD k 0))).map fun p => (lv n (k + 1) p, lv n k (sameAs (w.getD k 0) p))
/-- Which unknowns are the same. -/
def EE (n : Nat) (w : List Int) : List (Nat × Nat) := EB n w w.length ++ (List.range n).map fun p => (lv n w.length p, lv n 0 p)

theorem Let.low {n : Nat} {a : Int} (h : Let n a) : lowAt a < n := by
  have h0 : a.natAbs ≠ 0 := fun e => h.ne (Int.natAbs_eq_zero.1 e)
  have := h.lt
  unfold lowAt; split <;> omega
theorem Let.same {n : Nat} {a : Int} (h : Let n a) {p : Nat} (hp : p < n) : sameAs a p < n := by
  have h0 : a.natAbs ≠ 0 := fun e => h.ne (Int.natAbs_eq_zero.1 e)
  have := h.lt
  unfold sameAs; split <;> split <;> omega
end Go.Proofs.Ytcfpdeeipbekfaa.Kn

/- A closed word's rows merged, plain: the determinant of the diagram's rows is that of one less the word's table. -/
namespace Go.Proofs.Ytcfpdeeipbekfaa.Kn
set_option linter.unusedVariables false

theorem unit_sum {vs : List Nat} (hn : vs.Nodup) {a : Nat} (ha : a ∈ vs) : (vs.map (unit a)).sum = 1 := by
  have key : ∀ l : List Nat, l.Nodup → (l.map (unit a)).sum = if a ∈ l then 1 else 0 := by
    intro l hl
    induction l with
    | nil => simp
    | cons c l ih =>
      rw [List.map_cons, List.sum_cons, ih (List.nodup_cons.1 hl).2, unit]
      by_cases hc : c = a
      · subst hc; rw [if_pos rfl, if_neg (List.nodup_cons.1 hl).1, if_pos List.mem_cons_self]; grind
      · rw [if_neg hc]
        by_cases hbl : a ∈ l
        · rw [if_pos hbl, if_pos (List.mem_cons_of_mem _ hbl)]; grind
        · rw [if_neg hbl, if_neg fun hm => (List.mem_cons.1 hm).elim (fun e => hc e.symm) hbl]; grind
  rw [key vs hn, if_pos ha]
theorem unit_sum_filter {vs : List Nat} (hn : vs.Nodup) {a : Nat} (ha : a ∈ vs) (q : Nat → Nat) (c : Nat) : psh vs q (unit a) c = if q a = c then 1 else 0 := by
  unfold psh
  by_cases h : q a = c
  · rw [if_pos h]
    exact unit_sum (hn.sublist List.filter_sublist) (List.mem_filter.2 ⟨ha, by simp [h]⟩)
  · rw [if_neg h]
    refine sum_zero _ _ fun v hv => ?_
    have := (List.mem_filter.1 hv).2
    refine if_neg fun e => h ?_
    rw [← e]; simpa using this
theorem psh_lin (vs : List Nat) (q : Nat → Nat) (r s : Row) (a b : Rat) (c : Nat) : psh vs q (fun v => a * r v + b * s v) c = a * psh vs q r c + b * psh vs q s c := by
  unfold psh
  rw [sum_add, sum_smul, sum_smul]
theorem psh_three {vs : List Nat} (hn : vs.Nodup) (q : Nat → Nat) {a b d : Nat} (ha : a ∈ vs) (hb : b ∈ vs) (hd : d ∈ vs) (m l : Rat) (c : Nat) :
    psh vs q (fun v => unit a v + m * unit b v + l * unit d v) c = (if q a = c then 1 else 0) + m * (if q b = c then 1 else 0) + l * (if q d = c then 1 else 0) := by
  have h1 := psh_lin vs q (unit a) (unit b) 1 m c
  have h2 := psh_lin vs q (fun v => 1 * unit a v + m * unit b v) (unit d) 1 l c
  rw [unit_sum_filter hn ha, unit_sum_filter hn hb] at h1
  rw [unit_sum_filter hn hd, h1] at h2
  rw [show (fun v => unit a v + m * unit b v + l * unit d v) = fun v => 1 * (1 * unit a v + m * unit b v) + l * unit d v from funext fun v => by grind, h2]
  grind
/-- Which unknowns the row of the strand below reads: behind it, ahead of it, and that above. -/
def toV (n : Nat) (w : List Int) (k : Nat) : Nat := if 0 < w.getD k 0 then lv n (k + 1) ((w.getD k 0).natAbs - 1) else lv n k ((w.getD k 0).natAbs - 1)
def inV (n : Nat) (w : List Int) (k : Nat) : Nat := if 0 < w.getD k 0 then lv n k ((w.getD k 0).natAbs - 1 + 1) else lv n (k + 1) ((w.getD k 0).natAbs - 1 + 1)
def ovV (n : Nat) (w : List Int) (k : Nat) : Nat := if 0 < w.getD k 0 then lv n (k + 1) ((w.getD k 0).natAbs - 1 + 1) else lv n k ((w.getD k 0).natAbs - 1 + 1)
/-- The diagram's row. -/
def prow (t : Rat) (n : Nat) (w : List Int) (q : Nat → Nat) (k : Nat) : Row := fun c =>
  (if q (toV n w k) = c then 1 else 0) + -t * (if q (inV n w k) = c then 1 else 0) + (t - 1) * (if q (ovV n w k) = c then 1 else 0)
theorem eqr_sum {vs : List Nat} (hn : vs.Nodup) {e : Nat × Nat} (h1 : e.1 ∈ vs) (h2 : e.2 ∈ vs) : (vs.map (eqr e)).sum = 0 := by
  rw [show eqr e = fun v => unit e.1 v + -1 * unit e.2 v from funext fun v => by unfold eqr; grind, sum_add, sum_smul, unit_sum hn h1, unit_sum hn h2]
  grind

theorem Dv_last {t : Rat} {L : Nat} (rs : List Row) : Eu t (Dv (unit L :: rs) (List.range (L + 1))) (Dv rs (List.range L)) := by
  have hp : (List.range (L + 1)).Perm (L :: List.range L) := by rw [List.range_succ]; exact List.perm_append_comm
  obtain ⟨e, he, k⟩ := Dv_cols hp
  have h1 : unit L L = 1 := if_pos rfl
  have h2 : Dv (unit L :: rs) (L :: List.range L) = Dv rs (List.range L) := by
    rw [Dv_out (by rw [h1]; grind), h1]
    have := Dv_map (f := fun s v => s v - s L / 1 * unit L v) (g := fun s => s) (vs := List.range L) rs fun r _ v hv => by
      have hv' := List.mem_range.1 hv
      show r v - r L / 1 * unit L v = r v
      rw [show unit L v = 0 from if_neg (by omega)]; grind
    rw [List.map_id'] at this
    rw [this]; grind
  exact ⟨e, .sg he, by rw [k, h2]⟩

end Go.Proofs.Ytcfpdeeipbekfaa.Kn

/- One less a table, without a row: whatever is left out; what goes around; one strand more. Plain. -/
namespace Go.Proofs.Ytcfpdeeipbekfaa.Kn
set_option linter.unusedVariables false

/-- Forms F of n places: their sums are 1, and weighted they are what they were. -/
structure Fm (t : Rat) (n : Nat) (F : Nat → Row) : Prop where
  one : ∀ p, p < n → ((List.range n).map (F p)).sum = 1
  wt : ∀ z, z < n → ((List.range n).map fun p => t ^ p * F p z).sum = t ^ z
theorem Fm.step {t : Rat} (ht : t ≠ 0) {n : Nat} {x : Nat → Row} (h : Fm t n x) {a : Int} (ha : Let n a) : Fm t n (stepF t a x) := by
  have h0 : a.natAbs ≠ 0 := fun e => ha.ne (Int.natAbs_eq_zero.1 e)
  have h1 := ha.lt
  have hi : a.natAbs - 1 + 1 = a.natAbs := by omega
  have hne : ¬ a.natAbs - 1 + 1 = a.natAbs - 1 := by omega
  have hpw : t ^ (a.natAbs - 1 + 1) = t ^ (a.natAbs - 1) * t := Rat.pow_succ _ _
  refine ⟨fun p hp => ?_, fun z hz => ?_⟩
  · have o1 := h.one (a.natAbs - 1) (by omega)
    have o2 := h.one (a.natAbs - 1 + 1) (by omega)
    have o3 := h.one p hp
    unfold stepF
    by_cases hs : 0 < a
    · simp only [if_pos hs]
      split
      · have : ((List.range n).map fun b => t * x (a.natAbs - 1 + 1) b + (1 - t) * x (a.natAbs - 1) b).sum = t * 1 + (1 - t) * 1 := by rw [sum_add, sum_smul, sum_smul, o1, o2]
        rw [this]; grind
      · split
        · exact o1
        · exact o3
    · simp only [if_neg hs]
      split
      · exact o2
      · split
        · have : ((List.range n).map fun b => t⁻¹ * (x (a.natAbs - 1) b + (t - 1) * x (a.natAbs - 1 + 1) b)).sum = t⁻¹ * (1 + (t - 1) * 1) := by rw [sum_smul, sum_add, sum_smul, o1, o2]
          rw [this]; grind
        · exact o3
  · rw [← h.wt z hz]
    refine sum_two (i := a.natAbs - 1) (by omega) (fun p hp p1 p2 => ?_) ?_
    · unfold stepF
      by_cases hs : 0 < a
      · simp only [if_pos hs, if_neg p1, if_neg p2]
      · simp only [if_neg hs, if_neg p1, if_neg p2]
    · unfold stepF
      by_cases hs : 0 < a
      · simp only [if_pos hs, if_true, if_neg hne]
        grind
      · simp only [if_neg hs, if_true, if_neg hne]
        grind
/-- Unknowns p for the places ahead of U, n + p for those ahead of V. -/
def vs2 (n : Nat) : List Nat := (List.range n).map (n + ·) ++ List.range n
end Go.Proofs.Ytcfpdeeipbekfaa.Kn

/- Closed words by their tables, plain: what goes around, what is undone, one strand more, a strand that nothing touches. -/
namespace Go.Proofs.Ytcfpdeeipbekfaa.Kn
set_option linter.unusedVariables false

/-- The forms behind a word. -/
def outF (t : Rat) (w : List Int) (x : Nat → Row) : Nat → Row := w.foldl (fun x a => stepF t a x) x
def LetsM (n : Nat) (w : List Int) : Prop := ∀ a ∈ w, Let n a
theorem LetsM.app {n : Nat} {u v : List Int} (h : LetsM n u) (k : LetsM n v) : LetsM n (u ++ v) := fun a ha => (List.mem_append.1 ha).elim (h a) (k a)
theorem Fm.out {t : Rat} (ht : t ≠ 0) {n : Nat} : ∀ {w : List Int}, LetsM n w → ∀ {x : Nat → Row}, Fm t n x → Fm t n (outF t w x)
  | [], _, _, h => h
  | a :: w, hw, x, h => Fm.out ht (fun c hc => hw c (List.mem_cons_of_mem _ hc)) (h.step ht (hw a List.mem_cons_self))

end Go.Proofs.Ytcfpdeeipbekfaa.Kn

/- Closed words, plain: which crossing a place comes to next; arcs numbered along the strands; what Close reckons. -/
namespace Go.Proofs.Ytcfpdeeipbekfaa.Kn
set_option linter.unusedVariables false

/-- The left place of a letter at a level; which places it touches. -/
def iw (w : List Int) (k : Nat) : Nat := (w.getD k 0).natAbs - 1
def Tch (w : List Int) (k p : Nat) : Prop := k < w.length ∧ (p = iw w k ∨ p = iw w k + 1)
instance (w : List Int) (k p : Nat) : Decidable (Tch w k p) := inferInstanceAs (Decidable (_ ∧ (_ ∨ _)))
/-- The first level from k on, of d levels, at which a place is touched. -/
def upT (w : List Int) (p : Nat) : Nat → Nat → Nat
  | 0, k => k
  | d + 1, k => if Tch w k p then k else upT w p d (k + 1)
def nxT (w : List Int) (k p : Nat) : Nat := if upT w p (w.length - k) k < w.length then upT w p (w.length - k) k else upT w p w.length 0
theorem upT_le (w : List Int) (p : Nat) : ∀ d k, upT w p d k ≤ k + d
  | 0, k => Nat.le_refl _
  | d + 1, k => by
    unfold upT
    split
    · omega
    · have := upT_le w p d (k + 1); omega
theorem upT_is (w : List Int) (p : Nat) : ∀ d k, k + d = w.length → upT w p d k < w.length → Tch w (upT w p d k) p
  | 0, k, h, h1 => by simp only [upT] at h1; omega
  | d + 1, k, h, h1 => by
    unfold upT at h1 ⊢
    split
    · assumption
    · rw [if_neg (by assumption)] at h1
      exact upT_is w p d (k + 1) (by omega) h1
theorem upT_find (w : List Int) (p : Nat) : ∀ d k, k + d = w.length → ∀ j, k ≤ j → Tch w j p → upT w p d k ≤ j
  | 0, k, h, j, hj, ht => by have := ht.1; omega
  | d + 1, k, h, j, hj, ht => by
    unfold upT
    split
    · exact hj
    · rename_i hn
      refine upT_find w p d (k + 1) (by omega) j ?_ ht
      by_cases c : k = j
      · subst c; exact absurd ht hn
      · omega
theorem upT_const {α : Type} {w : List Int} {p : Nat} {f : Nat → α} (h : ∀ k, k < w.length → ¬ Tch w k p → f (k + 1) = f k) : ∀ d k, k + d = w.length → f (upT w p d k) = f k
  | 0, k, _ => rfl
  | d + 1, k, hk => by
    unfold upT
    split
    · rfl
    · rename_i hn
      rw [upT_const h d (k + 1) (by omega), h k (by omega) hn]
theorem nxT_touch {w : List Int} {k p : Nat} (h : Tch w k p) : nxT w k p = k := by
  have hk := h.1
  have e : upT w p (w.length - k) k = k := by
    rw [show w.length - k = (w.length - k - 1) + 1 by omega, upT, if_pos h]
  unfold nxT
  rw [e, if_pos hk]
theorem nxT_on {w : List Int} {k p : Nat} (hk : k < w.length) (h : ¬ Tch w k p) : nxT w (k + 1) p = nxT w k p := by
  have e : upT w p (w.length - k) k = upT w p (w.length - (k + 1)) (k + 1) := by
    rw [show w.length - k = (w.length - (k + 1)) + 1 by omega, upT, if_neg h]
  unfold nxT
  rw [e]
theorem nxT_round (w : List Int) (p : Nat) : nxT w w.length p = nxT w 0 p := by
  unfold nxT
  rw [Nat.sub_self, Nat.sub_zero, upT, if_neg (Nat.lt_irrefl _)]
  split <;> rfl
theorem nxT_is {w : List Int} {p : Nat} (h : ∃ j, Tch w j p) {k : Nat} (hk : k ≤ w.length) : Tch w (nxT w k p) p := by
  obtain ⟨j, hj⟩ := h
  unfold nxT
  split
  · exact upT_is w p _ k (by omega) (by assumption)
  · exact upT_is w p _ 0 (by omega) (Nat.lt_of_le_of_lt (upT_find w p _ 0 (by omega) j (Nat.zero_le _) hj) hj.1)
/-- What is the same from level to level where nothing is touched is told at the next touch. -/
theorem nxT_const {α : Type} {w : List Int} {p : Nat} {f : Nat → α} (h : ∀ k, k < w.length → ¬ Tch w k p → f (k + 1) = f k) (hc : f w.length = f 0) {k : Nat} (hk : k ≤ w.length) : f (nxT w k p) = f k := by
  have e := upT_const h (w.length - k) k (by omega)
  unfold nxT
  split
  · exact e
  · have h1 := upT_le w p (w.length - k) k
    rw [show upT w p (w.length - k) k = w.length by omega] at e
    rw [upT_const h w.length 0 (by omega), ← e, hc]
/-- Where a strand goes at a crossing; where it passes next. -/
def opT (w : List Int) (k p : Nat) : Nat := if p = iw w k then iw w k + 1 else iw w k
def npT (w : List Int) (x : Nat × Nat) : Nat × Nat := (nxT w (x.1 + 1) (opT w x.1 x.2), opT w x.1 x.2)
/-- The place at a level of the strand that begins at a place. -/
def stP (w : List Int) (k p : Nat) : Nat := if Tch w k p then opT w k p else p
def plW (w : List Int) : Nat → Nat → Nat
  | 0, q => q
  | k + 1, q => stP w k (plW w k q)
theorem opT_tch {w : List Int} {k p : Nat} (h : Tch w k p) : Tch w k (opT w k p) := by
  refine ⟨h.1, ?_⟩
  unfold opT
  split
  · exact .inr rfl
  · exact .inl rfl
theorem opT_opT {w : List Int} {k p : Nat} (h : Tch w k p) : opT w k (opT w k p) = p := by
  have h2 := h.2
  unfold opT
  by_cases c : p = iw w k
  · rw [if_pos c, if_neg (by omega)]; exact c.symm
  · rw [if_neg c, if_pos rfl]; omega
theorem stP_stP (w : List Int) (k p : Nat) : stP w k (stP w k p) = p := by
  unfold stP
  by_cases c : Tch w k p
  · rw [if_pos c, if_pos (opT_tch c), opT_opT c]
  · rw [if_neg c, if_neg c]
theorem stP_inj {w : List Int} {k p q : Nat} (h : stP w k p = stP w k q) : p = q := by
  rw [← stP_stP w k p, h, stP_stP]
theorem plW_inj {w : List Int} : ∀ {k p q : Nat}, plW w k p = plW w k q → p = q
  | 0, _, _, h => h
  | k + 1, _, _, h => plW_inj (stP_inj h)
theorem stP_lt {n : Nat} {w : List Int} (hw : LetsM n w) {k p : Nat} (hp : p < n) : stP w k p < n := by
  unfold stP
  split
  · rename_i h
    have hl := h.1
    have ha := hw (w.getD k 0) (by rw [List.getD_eq_getElem?_getD, List.getElem?_eq_getElem hl]; exact List.getElem_mem hl)
    have h0 := ha.ne
    have h1 := ha.lt
    unfold opT
    split <;> unfold iw <;> omega
  · exact hp
theorem plW_lt {n : Nat} {w : List Int} (hw : LetsM n w) : ∀ {k p : Nat}, p < n → plW w k p < n
  | 0, _, h => h
  | k + 1, _, h => stP_lt hw (plW_lt hw (k := k) h)
/-- The state of a walk: the strand's place (from 1 on), the next number, the numbers of all passes, where the last one went out. -/
structure CS where
  at_ : Nat
  nx : Nat
  A : List Nat
  la : Option Nat
def stepC (k : Nat) (a : Int) (s : CS) : CS :=
  if s.at_ = a.natAbs then ⟨a.natAbs + 1, s.nx + 1, (s.A.set (4 * k) s.nx).set (4 * k + 1) (s.nx + 1), some (4 * k + 1)⟩
  else if s.at_ = a.natAbs + 1 then ⟨a.natAbs, s.nx + 1, (s.A.set (4 * k + 2) s.nx).set (4 * k + 3) (s.nx + 1), some (4 * k + 3)⟩
  else s
def passC (w : List Int) : Nat → CS → CS
  | 0, s => s
  | k + 1, s => stepC k (w.getD k 0) (passC w k s)
def strandC (w : List Int) : Nat → List Bool → CS → Option (List Bool × CS)
  | 0, _, _ => none
  | f + 1, W, s => if W.getD s.at_ false then some (W, s) else strandC w f (W.set s.at_ true) (passC w w.length s)
structure CL where
  W : List Bool
  nx : Nat
  A : List Nat
  loops : Nat
def placeC (n : Nat) (w : List Int) (p : Nat) (s : CL) : Option CL :=
  if s.W.getD p false then some s else
  match strandC w (n + 1) s.W ⟨p, s.nx, s.A, none⟩ with
  | none => none
  | some (W, t) => match t.la with
    | some c => some ⟨W, t.nx, t.A.set c s.nx, s.loops⟩
    | none => some ⟨W, t.nx, t.A, s.loops + 1⟩
/-- Where the numbers of a pass stand. -/
def cellT (w : List Int) (x : Nat × Nat) : Nat := 4 * x.1 + 2 * (x.2 - iw w x.1)
def TchX (w : List Int) (x : Nat × Nat) : Prop := Tch w x.1 x.2
theorem cellT_lt {w : List Int} {x : Nat × Nat} (h : TchX w x) : cellT w x + 1 < 4 * w.length := by
  have h1 := h.1
  have h2 := h.2
  unfold cellT; omega
theorem cellT_inj {w : List Int} {x y : Nat × Nat} (hx : TchX w x) (hy : TchX w y) {i j : Nat} (hi : i < 2) (hj : j < 2) (e : cellT w x + i = cellT w y + j) : x = y ∧ i = j := by
  have h2 := hx.2
  have k2 := hy.2
  unfold cellT at e
  have e1 : x.1 = y.1 := by omega
  rw [e1] at e h2
  exact ⟨Prod.ext e1 (by omega), by omega⟩
theorem getD_set' {α : Type} (l : List α) (i j : Nat) (x d : α) : (l.set i x).getD j d = if j = i ∧ i < l.length then x else l.getD j d := by
  rw [List.getD_eq_getElem?_getD, List.getD_eq_getElem?_getD, List.getElem?_set]
  by_cases c : i = j
  · subst c
    rw [if_pos rfl]
    by_cases c2 : i < l.length
    · rw [if_pos c2, if_pos ⟨rfl, c2⟩]; rfl
    · rw [if_neg c2, if_neg fun h => c2 h.2, List.getElem?_eq_none (by omega)]
  · rw [if_neg c, if_neg fun h => c h.1.symm]

/-- Passes S in the order of the walk, O the numbers with which they go out, and what the memory holds. -/
structure InvC (w : List Int) (A : List Nat) (nx : Nat) (S : List (Nat × Nat)) (O : List Nat) : Prop where
  la : A.length = 4 * w.length
  nd : S.Nodup
  tch : ∀ x ∈ S, TchX w x
  nx : nx = S.length + 1
  lo : O.length = S.length
  cell : ∀ j (h : j < S.length), A.getD (cellT w S[j]) 0 = j + 1 ∧ A.getD (cellT w S[j] + 1) 0 = O.getD j 0
theorem InvC.push {w : List Int} {A : List Nat} {nx : Nat} {S : List (Nat × Nat)} {O : List Nat} (h : InvC w A nx S O) {x : Nat × Nat} (hx : TchX w x) (hn : x ∉ S) :
    InvC w ((A.set (cellT w x) nx).set (cellT w x + 1) (nx + 1)) (nx + 1) (S ++ [x]) (O ++ [nx + 1]) := by
  have hl := cellT_lt hx
  have h1 := h.la
  have h2 := h.nx
  have h3 := h.lo
  refine ⟨by simpa using h1, ?_, ?_, by simp [h2], by simp [h3], fun j hj => ?_⟩
  · rw [List.nodup_append]
    refine ⟨h.nd, by simp, ?_⟩
    intro a ha b hb e
    rw [List.mem_singleton] at hb
    subst hb; subst e
    exact hn ha
  · intro y hy
    rcases List.mem_append.1 hy with hy | hy
    · exact h.tch y hy
    · rw [List.mem_singleton] at hy; subst hy; exact hx
  · rw [getD_set', getD_set', getD_set', getD_set']
    simp only [List.length_set]
    by_cases c : j < S.length
    · rw [List.getElem_append_left c]
      have hy : TchX w S[j] := h.tch _ (List.getElem_mem c)
      have hne : S[j] ≠ x := fun e => hn (e ▸ List.getElem_mem c)
      have n1 : ∀ i i', i < 2 → i' < 2 → cellT w S[j] + i ≠ cellT w x + i' := fun i i' hi hi' e => hne (cellT_inj hy hx hi hi' e).1
      have m1 := n1 0 0 (by omega) (by omega)
      have m2 := n1 0 1 (by omega) (by omega)
      have m3 := n1 1 0 (by omega) (by omega)
      have m4 := n1 1 1 (by omega) (by omega)
      rw [if_neg (fun k => m2 (by simpa using k.1)), if_neg (fun k => m1 (by simpa using k.1)), if_neg (fun k => m4 k.1), if_neg (fun k => m3 (by simpa using k.1))]
      obtain ⟨c1, c2⟩ := h.cell j c
      refine ⟨c1, c2.trans ?_⟩
      rw [List.getD_eq_getElem?_getD, List.getD_eq_getElem?_getD, List.getElem?_append_left (by omega)]
    · have hj' : j = S.length := by simp at hj; omega
      subst hj'
      rw [List.getElem_append_right (Nat.le_refl _)]
      simp only [Nat.sub_self, List.getElem_cons_zero]
      rw [if_neg (fun k => by omega), if_pos ⟨by simp, by omega⟩, if_pos ⟨by simp, by omega⟩]
      refine ⟨h2, ?_⟩
      rw [List.getD_eq_getElem?_getD, List.getElem?_append_right (by omega)]
      simp [h3]
theorem InvC.close {w : List Int} {A : List Nat} {nx : Nat} {S : List (Nat × Nat)} {O : List Nat} (h : InvC w A nx S O) {j : Nat} (hj : j < S.length) (v : Nat) :
    InvC w (A.set (cellT w S[j] + 1) v) nx S (O.set j v) := by
  have h3 := h.lo
  refine ⟨by simpa using h.la, h.nd, h.tch, h.nx, by simpa using h3, fun i hi => ?_⟩
  obtain ⟨c1, c2⟩ := h.cell i hi
  have hx : TchX w S[i] := h.tch _ (List.getElem_mem hi)
  have hy : TchX w S[j] := h.tch _ (List.getElem_mem hj)
  have hl := cellT_lt hy
  have hla := h.la
  rw [getD_set', getD_set', getD_set']
  have m1 : ¬ (cellT w S[i] = cellT w S[j] + 1) := fun e => by
    have := (cellT_inj hx hy (i := 0) (j := 1) (by omega) (by omega) (by simpa using e)).2
    omega
  rw [if_neg (fun k => m1 k.1)]
  refine ⟨c1, ?_⟩
  by_cases c : i = j
  · subst c
    rw [if_pos ⟨rfl, by omega⟩, if_pos ⟨rfl, by omega⟩]
  · have m2 : ¬ (cellT w S[i] + 1 = cellT w S[j] + 1) := fun e => c (by
      have := (cellT_inj hx hy (i := 1) (j := 1) (by omega) (by omega) e).1
      exact (List.getElem_inj (h₀ := hi) (h₁ := hj) h.nd).1 this)
    rw [if_neg (fun k => m2 k.1), if_neg (fun k => c k.1)]
    exact c2
end Go.Proofs.Ytcfpdeeipbekfaa.Kn

/- Of each piece: no more than two more faces than crossings; so a diagram is planar just if it is so in sum: plain mathematics. -/
namespace Go.Proofs.Ytcfpdeeipbekfaa.Kn

/- classes, and numbers each of which is one by itself -/
theorem cl_some {N : Nat} {R : Nat → Nat → Prop} (hR : Equivalence R) (p : Nat → Bool) {ll : List (List Nat)} (hp : ll.flatten.Perm ((List.range N).filter p)) (hne : ∀ l ∈ ll, l ≠ []) (hc : ∀ l ∈ ll, ∀ x ∈ l, ∀ y, y ∈ l ↔ R x y) (hs : ∀ x, p x = false → ∀ y, R x y → y = x) :
    cl N R = ll.length + ((List.range N).filter fun x => !p x).length := by
  have h1 : (((List.range N).filter fun x => !p x).map fun x => [x]).flatten = (List.range N).filter fun x => !p x := by
    generalize (List.range N).filter (fun x => !p x) = l
    induction l with
    | nil => rfl
    | cons a l ih => rw [List.map_cons, List.flatten_cons, ih]; rfl
  have := cl_lists hR (N := N) (ll := ll ++ ((List.range N).filter fun x => !p x).map fun x => [x]) (by
      rw [List.flatten_append, h1]
      exact (hp.append_right _).trans (List.filter_append_perm p _))
    (fun l hl => by
      rcases List.mem_append.1 hl with hl | hl
      · exact hne l hl
      · obtain ⟨x, _, rfl⟩ := List.mem_map.1 hl; simp)
    (fun l hl x hx y => by
      rcases List.mem_append.1 hl with hl | hl
      · exact hc l hl x hx y
      · obtain ⟨z, hz, rfl⟩ := List.mem_map.1 hl
        rw [List.mem_singleton] at hx ⊢
        subst hx
        have hp := (List.mem_filter.1 hz).2
        rw [Bool.not_eq_true'] at hp
        exact ⟨fun e => e ▸ hR.refl _, fun h => hs _ hp y h⟩)
  rw [this, List.length_append, List.length_map]
section
variable {X : List Cr} {l : List Nat}
/- a piece alone -/
def inL (l : List Nat) (x : Nat) : Bool := l.contains (x / 4)
theorem inL_iff {x : Nat} : inL l x = true ↔ x / 4 ∈ l := by unfold inL; simp
def sigL (X : List Cr) (l : List Nat) (x : Nat) : Nat := if inL l x then sig X.length x else x
def ensL (X : List Cr) (l : List Nat) : Prs := (ens X).filter fun e => inL l e.1
theorem sig_div {n x : Nat} : sig n x / 4 = x / 4 := by unfold sig; split <;> omega
theorem sigL_pm (X : List Cr) (l : List Nat) : Pm (4 * X.length) (sigL X l) := by
  have h := sig_pm X.length
  refine ⟨fun x hx => ?_, fun x hx => ?_, fun x y e => ?_⟩
  · unfold sigL; split
    · exact h.lt x hx
    · exact hx
  · unfold sigL; split
    · exact h.out x hx
    · rfl
  · have hd : ∀ x, sigL X l x / 4 = x / 4 := fun x => by unfold sigL; split; exact sig_div; rfl
    have e4 : x / 4 = y / 4 := by rw [← hd x, e, hd]
    unfold sigL inL at e
    rw [e4] at e
    split at e
    · exact h.inj x y e
    · exact e
theorem ensL_sub : ∀ e ∈ ensL X l, e ∈ ens X := fun _ he => (List.mem_filter.1 he).1
theorem Ok.ensL_good (h : Ok X) : Good (4 * X.length) (ensL X l) := fun e he => h.ens_good e (ensL_sub e he)
theorem Ok.ensL_dis (h : Ok X) : Dis (ensL X l) := by
  have := h.ens_dis
  unfold Dis at this ⊢
  exact this.sublist List.filter_sublist
theorem IsPiece.other (h : IsPiece X l) {p : Pl} (hp : isPl X p) (hX : Ok X) : p.1 ∈ l ↔ (other X p).1 ∈ l := by
  have step : ∀ {q : Pl}, isPl X q → q.1 ∈ l → (Kn.other X q).1 ∈ l := fun {q} hq hl => by
    refine ((h.con _ hl).2 _).2 (.step (.refl _) ?_)
    unfold nbc
    rw [if_pos hq.1]
    exact mem_nbs.2 ⟨q.2, hq.2, rfl⟩
  refine ⟨step hp, fun k => ?_⟩
  have := step (hX.isPl_other hp) k
  rwa [hX.other_other hp] at this
theorem pk_div {p : Pl} (hp : p.2 < 4) : pk p / 4 = p.1 := by unfold pk; omega
theorem Ok.ens_piece (hX : Ok X) (h : IsPiece X l) {e : Nat × Nat} (he : e ∈ ens X) : inL l e.1 = inL l e.2 := by
  obtain ⟨a, ha, rfl⟩ := List.mem_map.1 he
  have ha := mem_arcs.1 ha
  have p1 := hX.isPl_end (io := true) ha
  have p2 := hX.isPl_end (io := false) ha
  rw [Bool.eq_iff_iff, inL_iff, inL_iff, pk_div p1.2, pk_div p2.2, h.other p1 hX]
  have : Kn.other X (endP X true a) = endP X false a := by
    unfold Kn.other
    rw [hX.cm_end ha, hX.arc_end ha]; rfl
  rw [this]
theorem Ok.mateL (hX : Ok X) (h : IsPiece X l) {x : Nat} : mate (ensL X l) x = if inL l x then mate (ens X) x else x := by
  by_cases c : inPrs (ens X) x
  · obtain ⟨e, he, k⟩ := c
    have hl : inL l x = inL l e.1 := by
      rcases k with rfl | rfl
      · rfl
      · exact (hX.ens_piece h he).symm
    by_cases d : inL l e.1 = true
    · rw [hl, if_pos d]
      have hm : e ∈ ensL X l := List.mem_filter.2 ⟨he, d⟩
      have m1 := mate_pair hX.ens_dis he
      have m2 := mate_pair hX.ensL_dis hm
      rcases k with rfl | rfl
      · rw [m1.1, m2.1]
      · rw [m1.2, m2.2]
    · rw [hl, if_neg d]
      refine mate_out fun ⟨e', he', k'⟩ => ?_
      have hd := (List.mem_filter.1 he').2
      have hl' : inL l x = inL l e'.1 := by
        rcases k' with rfl | rfl
        · rfl
        · exact (hX.ens_piece h (ensL_sub _ he')).symm
      rw [← hl', hl] at hd
      exact d hd
  · rw [mate_out c, ite_self]
    exact mate_out fun ⟨e, he, k⟩ => c ⟨e, ensL_sub e he, k⟩
theorem Ok.phiL (hX : Ok X) (h : IsPiece X l) (x : Nat) : phi (sigL X l) (ensL X l) x = if inL l x then fac X x else x := by
  unfold phi
  rw [hX.mateL h]
  have hi : inL l (sigL X l x) = inL l x := by
    unfold inL sigL
    split
    · rw [sig_div]
    · rfl
  rw [hi]
  unfold sigL
  by_cases c : inL l x = true
  · rw [if_pos c, if_pos c, if_pos c]; rfl
  · rw [if_neg c, if_neg c, if_neg c]
/- orbits of what is as it was but for some -/
theorem orb_if {f g : Nat → Nat} {p : Nat → Bool} (hg : ∀ x, g x = if p x then f x else x) (hp : ∀ x, p x = true → p (f x) = true) {x : Nat} (hx : p x = true) {y : Nat} : Orb g x y ↔ Orb f x y := by
  have key : ∀ n, it g n x = it f n x ∧ p (it f n x) = true := by
    intro n
    induction n with
    | zero => exact ⟨rfl, hx⟩
    | succ n ih =>
      refine ⟨?_, hp _ ih.2⟩
      rw [it, ih.1, hg, if_pos ih.2]; rfl
  constructor
  · rintro ⟨n, rfl⟩; exact ⟨n, (key n).1.symm⟩
  · rintro ⟨n, rfl⟩; exact ⟨n, (key n).1⟩
theorem orb_not {f g : Nat → Nat} {p : Nat → Bool} (hg : ∀ x, g x = if p x then f x else x) {x : Nat} (hx : p x = false) {y : Nat} (h : Orb g x y) : y = x :=
  h.ind (P := fun y => y = x) (fun z hz => by rw [hz, hg, hx]; rfl) rfl
theorem blks_perm (h : IsPiece X l) : (l.flatMap blk).Perm ((List.range (4 * X.length)).filter (inL l)) := by
  have hn : (l.flatMap blk).Nodup := by
    rw [List.Nodup, List.pairwise_flatMap]
    refine ⟨fun c _ => by unfold blk; simp, h.nodup.imp fun {a b} hne x hx y hy e => ?_⟩
    subst e
    exact hne ((mem_blk.1 hx).symm.trans (mem_blk.1 hy))
  refine (List.perm_ext_iff_of_nodup hn (List.nodup_range.sublist List.filter_sublist)).2 fun x => ?_
  rw [mem_blks, List.mem_filter, inL_iff, List.mem_range]
  exact ⟨fun k => ⟨by have := (h.con _ k).1; omega, k⟩, fun k => k.2⟩
/- the faces at a piece -/
def facesIn (X : List Cr) (l : List Nat) : List (List Dt) := (facesL X).filter fun f => l.contains (head X (f.headD (0, false))).1
theorem Ok.fac_piece (hX : Ok X) (h : IsPiece X l) {x : Nat} (hx : inL l x = true) : inL l (fac X x) = true := by
  rw [inL_iff] at hx ⊢
  have hl := (h.con _ hx).1
  have e : x = pk (pl x) := by unfold pk pl; simp only; omega
  have hp : isPl X (pl x) := isPl_pl (by omega)
  rw [e, hX.fac_pk hp, pk_div (hX.isPl_other (isPl_turn hp 3)).2]
  exact (h.other (isPl_turn hp 3) hX).1 (by show (pl x).1 ∈ l; unfold pl; exact hx)
theorem flatten_filter {α : Type} (q : List α → Bool) (p : α → Bool) : ∀ L : List (List α), (∀ r ∈ L, ∀ x ∈ r, p x = q r) → (L.filter q).flatten = L.flatten.filter p
  | [], _ => rfl
  | r :: L, h => by
    have ih := flatten_filter q p L fun r hr => h r (by simp [hr])
    rw [List.filter_cons, List.flatten_cons, List.filter_append]
    by_cases c : q r = true
    · have e : r.filter p = r := List.filter_eq_self.2 fun x hx => by rw [h r (by simp) x hx, c]
      rw [if_pos c, List.flatten_cons, ih, e]
    · have e : r.filter p = [] := List.filter_eq_nil_iff.2 fun x hx => by rw [h r (by simp) x hx]; exact c
      rw [if_neg c, ih, e]; rfl
/- Euler, of a piece -/
theorem Ok.euler_piece (hX : Ok X) (h : IsPiece X l) : (facesIn X l).length ≤ l.length + 2 := by
  have hE := (Kn.euler (sigL_pm X l) (hX.ensL_good (l := l))).1
  obtain ⟨K, hK⟩ : ∃ K, K = ((List.range (4 * X.length)).filter fun x => !inL l x).length := ⟨_, rfl⟩
  have hperm := blks_perm h
  have hlen : (l.flatMap blk).length = 4 * l.length := by
    have : ∀ l : List Nat, (l.flatMap blk).length = 4 * l.length := fun l => by
      induction l with
      | nil => rfl
      | cons a l ih => rw [List.flatMap_cons, List.length_append, ih, List.length_cons]; unfold blk; simp; omega
    exact this l
  -- crossings
  have hV : cl (4 * X.length) (Orb (sigL X l)) = l.length + K := by
    rw [hK]
    have := cl_some (sigL_pm X l).equiv (inL l) (ll := l.map blk) (by rw [← List.flatMap_def]; exact hperm) (fun b hb => by
        obtain ⟨c, _, rfl⟩ := List.mem_map.1 hb; unfold blk; simp)
      (fun b hb x hx y => by
        obtain ⟨c, hc, rfl⟩ := List.mem_map.1 hb
        have hcl := (h.con c hc).1
        rw [mem_blk] at hx ⊢
        have hin : inL l x = true := inL_iff.2 (by rw [hx]; exact hc)
        rw [orb_if (f := sig X.length) (g := sigL X l) (p := inL l) (fun x => rfl) (fun x hx => by unfold inL at hx ⊢; rwa [sig_div]) hin, sig_orb (by omega)]
        omega)
      (fun x hx y hy => orb_not (f := sig X.length) (g := sigL X l) (p := inL l) (fun x => rfl) hx hy)
    rw [this, List.length_map]
  -- faces
  have hF : cl (4 * X.length) (Orb (phi (sigL X l) (ensL X l))) = (facesIn X l).length + K := by
    rw [hK]
    have hal : ∀ f ∈ facesL X, ∀ d ∈ f, inL l (pk (head X d)) = l.contains (head X (f.headD (0, false))).1 := fun f hf d hd => by
      obtain ⟨d0, r, rfl⟩ : ∃ d r, f = d :: r := by
        cases f with
        | nil => exact absurd rfl (faces_ne X _ hf)
        | cons d r => exact ⟨d, r, rfl⟩
      have key : ∀ {d e : Dt}, d ∈ d0 :: r → e ∈ d0 :: r → inL l (pk (head X d)) = true → inL l (pk (head X e)) = true := fun {d e} hd he k => by
        have := (hX.faces_is _ (List.mem_map.2 ⟨_, hf, rfl⟩) (pk (head X d)) (List.mem_map.2 ⟨d, hd, rfl⟩) (pk (head X e))).1 (List.mem_map.2 ⟨e, he, rfl⟩)
        exact this.ind (P := fun y => inL l y = true) (fun z hz => hX.fac_piece h hz) k
      have ha : Kn.isArc X d0.1 := mem_darts.1 ((faces_perm hX).mem_iff.1 (List.mem_flatten.2 ⟨_, hf, by simp⟩))
      have e0 : inL l (pk (head X d0)) = l.contains (head X d0).1 := by unfold inL; rw [pk_div (hX.isPl_head ha).2]
      show _ = l.contains (head X d0).1
      rw [← e0, Bool.eq_iff_iff]
      exact ⟨key hd (by simp), key (by simp) hd⟩
    have := cl_some (phi_pm (sigL_pm X l) (hX.ensL_good (l := l))).equiv (inL l) (ll := (facesIn X l).map (List.map fun d => pk (head X d))) (by
        have e : ((facesIn X l).map (List.map fun d => pk (head X d))).flatten = ((facesL X).map (List.map fun d => pk (head X d))).flatten.filter (inL l) := by
          rw [← List.map_flatten, ← List.map_flatten, List.filter_map]
          congr 1
          exact flatten_filter _ _ _ fun f hf d hd => hal f hf d hd
        rw [e]
        exact hX.faces_flat.filter _)
      (fun b hb => by
        obtain ⟨f, hf, rfl⟩ := List.mem_map.1 hb
        have := faces_ne X f (List.mem_filter.1 hf).1
        simpa using this)
      (fun b hb x hx y => by
        obtain ⟨f, hf, rfl⟩ := List.mem_map.1 hb
        obtain ⟨hf1, hf2⟩ := List.mem_filter.1 hf
        rw [hX.faces_is _ (List.mem_map.2 ⟨f, hf1, rfl⟩) x hx]
        obtain ⟨d, hd, rfl⟩ := List.mem_map.1 hx
        exact (orb_if (hX.phiL h) (fun x hx => hX.fac_piece h hx) (by rw [hal f hf1 d hd]; exact hf2)).symm)
      (fun x hx y hy => orb_not (hX.phiL h) hx hy)
    rw [this, List.length_map]
  -- the piece
  have hC : cl (4 * X.length) (com (sigL X l) (ensL X l)) = 1 + K := by
    rw [hK]
    have heq := com_equiv (sigL_pm X l) (ensL X l)
    have := cl_some heq (inL l) (ll := [l.flatMap blk]) (by simpa using hperm)
      (fun b hb => by
        rw [List.mem_singleton] at hb; subst hb
        obtain ⟨c, hc⟩ := List.exists_mem_of_ne_nil _ h.ne
        have : c * 4 ∈ l.flatMap blk := mem_blks.2 (by rw [show c * 4 / 4 = c by omega]; exact hc)
        exact List.ne_nil_of_mem this)
      (fun b hb x hx y => by
        rw [List.mem_singleton] at hb; subst hb
        rw [mem_blks] at hx ⊢
        constructor
        · intro hy
          -- connected within the piece
          have hxl : x < 4 * X.length := by have := (h.con _ hx).1; omega
          have hcon : pie X x y := (hX.pie_con hxl).2 (((h.con _ hx).2 _).1 hy)
          have := com_least (R := fun x y => (x / 4 ∈ l ↔ y / 4 ∈ l) ∧ (x / 4 ∈ l → com (sigL X l) (ensL X l) x y)) (σ := sig X.length) (es := ens X)
            ⟨fun x => ⟨Iff.rfl, fun _ => heq.refl x⟩, fun {x y} k => ⟨k.1.symm, fun m => heq.symm (k.2 (k.1.2 m))⟩, fun {x y z} k m => ⟨k.1.trans m.1, fun a => heq.trans (k.2 a) (m.2 (k.1.1 a))⟩⟩
            (fun x => ⟨by rw [sig_div], fun m => com_sub (by
              have : sigL X l x = sig X.length x := by unfold sigL; rw [if_pos (inL_iff.2 m)]
              rw [← this]; exact Orb.one _ x)⟩)
            (fun e he => ⟨by rw [← inL_iff, ← inL_iff, hX.ens_piece h he], fun m => com_pair (sigL_pm X l) (List.mem_filter.2 ⟨he, inL_iff.2 m⟩)⟩) hcon
          exact this.2 hx
        · intro k
          have := com_least (R := fun x y => x / 4 ∈ l ↔ y / 4 ∈ l) (σ := sigL X l) (es := ensL X l) ⟨fun x => Iff.rfl, fun k => k.symm, fun k m => k.trans m⟩
            (fun x => by unfold sigL; split; rw [sig_div]; rfl) (fun e he => by rw [← inL_iff, ← inL_iff, hX.ens_piece h (ensL_sub e he)]) k
          exact this.1 hx)
      (fun x hx y hy => by
        have := com_least (R := fun x y => x = y ∨ (inL l x = true ∧ inL l y = true)) (σ := sigL X l) (es := ensL X l)
          ⟨fun x => .inl rfl, fun {x y} k => by rcases k with rfl | ⟨a, b⟩; exact .inl rfl; exact .inr ⟨b, a⟩, fun {x y z} k m => by
            rcases k with rfl | ⟨a, b⟩
            · exact m
            · rcases m with rfl | ⟨c, d⟩
              · exact .inr ⟨a, b⟩
              · exact .inr ⟨a, d⟩⟩
          (fun x => by
            by_cases c : inL l x = true
            · refine .inr ⟨c, ?_⟩
              unfold sigL; rw [if_pos c]; unfold inL at c ⊢; rwa [sig_div]
            · left; unfold sigL; rw [if_neg c])
          (fun e he => .inr ⟨(List.mem_filter.1 he).2, by rw [← hX.ens_piece h (ensL_sub e he)]; exact (List.mem_filter.1 he).2⟩) hy
        rcases this with e | ⟨a, _⟩
        · exact e.symm
        · rw [hx] at a; cases a)
    rw [this]; simp
  -- arcs
  have hA : 2 * (ensL X l).length = 4 * l.length := by
    rw [← hlen]
    have e : ∀ es : Prs, (es.flatMap fun e => [e.1, e.2]).length = 2 * es.length := fun es => by
      induction es with
      | nil => rfl
      | cons e es ih => rw [List.flatMap_cons, List.length_append, ih, List.length_cons]; simp; omega
    rw [← e]
    refine List.Perm.length_eq ((List.perm_ext_iff_of_nodup ?_ (hperm.nodup_iff.2 (List.nodup_range.sublist List.filter_sublist))).2 fun x => ?_)
    · rw [List.Nodup, List.pairwise_flatMap]
      refine ⟨fun e he => by
        have := (hX.ensL_good e he).2.2
        simp [this], (hX.ensL_dis (l := l)).imp fun {a b} k x hx y hy => ?_⟩
      simp only [List.mem_cons, List.not_mem_nil, or_false] at hx hy
      rcases hx with rfl | rfl <;> rcases hy with rfl | rfl
      · exact k.1
      · exact k.2.1
      · exact k.2.2.1
      · exact k.2.2.2
    · rw [mem_blks, List.mem_flatMap]
      constructor
      · rintro ⟨e, he, hx⟩
        have h1 := (List.mem_filter.1 he).2
        simp only [List.mem_cons, List.not_mem_nil, or_false] at hx
        rcases hx with rfl | rfl
        · exact inL_iff.1 h1
        · rw [hX.ens_piece h (ensL_sub e he)] at h1
          exact inL_iff.1 h1
      · intro hx
        have hxl := (h.con _ hx).1
        have e0 : x = pk (pl x) := by unfold pk pl; simp only; omega
        obtain ⟨e, he, k⟩ := hX.mem_ens (isPl_pl (X := X) (j := x) (by omega))
        rw [← e0] at k
        have hk : x = e.1 ∨ x = e.2 := k.elim (fun k => .inl k.1) fun k => .inr k.1
        refine ⟨e, List.mem_filter.2 ⟨he, ?_⟩, by simpa using hk⟩
        rcases hk with hk | hk
        · rw [← hk]; exact inL_iff.2 hx
        · rw [hX.ens_piece h he, ← hk]; exact inL_iff.2 hx
  rw [hV, hF, hC] at hE
  omega
theorem Ok.facesAt_in (hX : Ok X) {i : Nat} (hi : i < (piecesL X).length) : facesAt X i = (facesIn X (piecesL X)[i]).length := by
  unfold facesAt facesIn
  rw [List.countP_eq_length_filter]
  congr 1
  refine List.filter_congr fun f hf => ?_
  have hc := hX.face_at hf
  obtain ⟨c, hcd⟩ : ∃ c, c = (head X (f.headD (0, false))).1 := ⟨_, rfl⟩
  rw [← hcd] at hc ⊢
  rw [Bool.eq_iff_iff, decide_eq_true_eq, List.contains_iff_mem]
  have hlt := hX.pieceAt_lt hc
  have hmem : c ∈ (piecesL X)[pieceAt X c] := by
    have hlt' : (piecesL X).findIdx (fun l => l.contains c) < (piecesL X).length := hlt
    have : ((piecesL X)[pieceAt X c]).contains c = true := List.findIdx_getElem (xs := piecesL X) (p := fun l => l.contains c) (w := hlt')
    exact List.contains_iff_mem.1 this
  constructor
  · intro e; subst e; exact hmem
  · intro k
    have hnd : (piecesL X).flatten.Nodup := hX.pieces_perm.nodup_iff.2 List.nodup_range
    have hp := List.pairwise_iff_getElem.1 (List.pairwise_flatten.1 hnd).2
    rcases Nat.lt_trichotomy (pieceAt X c) i with d | d | d
    · exact absurd rfl (hp _ _ hlt hi d c hmem c k)
    · exact d
    · exact absurd rfl (hp _ _ hi hlt d c k c hmem)
theorem sum_le_eq {f g : Nat → Nat} : ∀ {m : Nat}, (∀ i, i < m → f i ≤ g i) → ((List.range m).map f).sum = ((List.range m).map g).sum → ∀ i, i < m → f i = g i
  | 0, _, _, i, hi => by omega
  | m + 1, hle, hs, i, hi => by
    have hle' : ∀ k, k ≤ m → ((List.range k).map f).sum ≤ ((List.range k).map g).sum := fun k => by
      induction k with
      | zero => intro _; exact Nat.le_refl _
      | succ k ih =>
        intro hk
        have := ih (by omega)
        have := hle k (by omega)
        rw [List.range_succ, List.map_append, List.map_append, List.sum_append, List.sum_append]
        simp only [List.map_cons, List.map_nil, List.sum_cons, List.sum_nil]
        omega
    rw [List.range_succ, List.map_append, List.map_append, List.sum_append, List.sum_append] at hs
    simp only [List.map_cons, List.map_nil, List.sum_cons, List.sum_nil] at hs
    have h1 := hle' m (Nat.le_refl _)
    have h2 := hle m (by omega)
    by_cases c : i = m
    · subst c; omega
    · exact sum_le_eq (m := m) (fun i hi => hle i (by omega)) (by omega) i (by omega)
theorem Ok.planar_iff (hX : Ok X) : planarB X = true ↔ (facesL X).length = X.length + 2 * (piecesL X).length := by
  refine ⟨hX.planar_count, fun h => ?_⟩
  rw [← hX.faces_sum, ← hX.lens_sum] at h
  refine List.all_eq_true.2 fun i hi => ?_
  rw [List.mem_range] at hi
  rw [decide_eq_true_eq]
  refine sum_le_eq (g := fun i => ((piecesL X).getD i []).length + 2) (fun i hi => ?_) h i hi
  have e : (piecesL X).getD i [] = (piecesL X)[i] := by rw [List.getD_eq_getElem?_getD, List.getElem?_eq_getElem hi]; rfl
  show _ ≤ ((piecesL X).getD i []).length + 2
  rw [hX.facesAt_in hi, e]
  exact hX.euler_piece (hX.pieces_is _ (List.getElem_mem hi))
end
end Go.Proofs.Ytcfpdeeipbekfaa.Kn

/- Where Euler's formula is an equality it stays one: an edge less, a vertex split, an edge drawn together, a vertex of two ends left out: plain mathematics. -/
namespace Go.Proofs.Ytcfpdeeipbekfaa.Kn

def Flat (N : Nat) (σ : Nat → Nat) (es : Prs) : Prop := cl N (Orb (phi σ es)) + cl N (Orb σ) = es.length + 2 * cl N (com σ es)
section
variable {N : Nat} {σ : Nat → Nat}
theorem swp_inj1 {a b x y : Nat} (h : swp a b x = swp a b y) : x = y := by
  have := congrArg (swp a b) h
  rwa [swp_swp, swp_swp] at this
theorem mate_inj : ∀ {es : Prs} {x y : Nat}, mate es x = mate es y → x = y
  | [], _, _, h => h
  | _ :: _, _, _, h => mate_inj (swp_inj1 h)
theorem inj_swp {f : Nat → Nat} (hf : ∀ {x y}, f x = f y → x = y) (a b z : Nat) : f (swp a b z) = swp (f a) (f b) (f z) := by
  by_cases h : z = a
  · subst h; rw [swp_a, swp_a]
  · by_cases k : z = b
    · subst k; rw [swp_b, swp_b]
    · rw [swp_ne h k, swp_ne (fun e => h (hf e)) (fun e => k (hf e))]
theorem mate_swp (es : Prs) (a b z : Nat) : mate es (swp a b z) = swp (mate es a) (mate es b) (mate es z) := inj_swp mate_inj a b z
theorem com_mate (h : Pm N σ) (es : Prs) (x : Nat) : com σ es x (mate es x) := by
  have key : ∀ (l : Prs), (∀ e ∈ l, e ∈ es) → com σ es x (mate l x) := by
    intro l
    induction l with
    | nil => intro _; exact (com_equiv h es).refl x
    | cons e l ih =>
      intro hl
      have i := ih fun d hd => hl d (by simp [hd])
      have p := com_pair h (hl e (by simp))
      show com σ es x (swp e.1 e.2 (mate l x))
      by_cases c : mate l x = e.1
      · rw [c, swp_a]; rw [c] at i; exact (com_equiv h es).trans i p
      · by_cases d : mate l x = e.2
        · rw [d, swp_b]; rw [d] at i; exact (com_equiv h es).trans i ((com_equiv h es).symm p)
        · rw [swp_ne c d]; exact i
  exact key es fun _ he => he
theorem Good.mate_lt : ∀ {es : Prs}, Good N es → ∀ {x : Nat}, x < N → mate es x < N
  | [], _, _, hx => hx
  | e :: es, h, x, hx => by
    have i := h.tail.mate_lt hx
    obtain ⟨h1, h2, _⟩ := h e (by simp)
    show swp e.1 e.2 (mate es x) < N
    unfold swp; split
    · exact h2
    · split
      · exact h1
      · exact i

theorem Flat.drop (h : Pm N σ) {e : Nat × Nat} {es : Prs} (hg : Good N (e :: es)) (hf : Flat N σ (e :: es)) : Flat N σ es := by
  unfold Flat at hf ⊢
  obtain ⟨h1, h2, h3⟩ := hg e (by simp)
  have hE := (euler h hg.tail).1
  have hp := phi_pm h hg.tail
  rw [phi_cons, List.length_cons] at hf
  have hf : cl N (Orb fun x => swp e.1 e.2 (phi σ es x)) + cl N (Orb σ) = es.length + 1 + 2 * cl N (mrg (com σ es) e.1 e.2) := hf
  by_cases d : Orb (phi σ es) e.1 e.2
  · have := cl_part hp h1 h2 h3 d
    rw [cl_congr (mrg_same (com_equiv h es) (orb_com h hg.tail d))] at hf
    omega
  · have := cl_join hp h1 h2 d
    by_cases c : com σ es e.1 e.2
    · rw [cl_congr (mrg_same (com_equiv h es) c)] at hf; omega
    · have := cl_mrg (com_equiv h es) h1 h2 c
      omega
/- what is joined by a split vertex -/
theorem com_split (h : Pm N σ) {a b : Nat} (ha : a < N) (hb : b < N) (es : Prs) (k : Orb σ a b) (x y : Nat) : com σ es x y ↔ mrg (com (fun x => swp a b (σ x)) es) a b x y := by
  have h' := h.swp ha hb
  have hR := mrg_equiv (com_equiv h' es) a b
  have hab : mrg (com (fun x => swp a b (σ x)) es) a b a b := .inr (.inl ⟨(com_equiv h' es).refl _, (com_equiv h' es).refl _⟩)
  constructor
  · intro c
    refine com_least hR (fun z => ?_) (fun e he => .inl (com_pair h' he)) c
    have o : mrg (com (fun x => swp a b (σ x)) es) a b z (swp a b (σ z)) := .inl (com_sub (Orb.one (fun x => swp a b (σ x)) z))
    by_cases c : σ z = a
    · rw [c, swp_a] at o; rw [c]; exact hR.trans o (hR.symm hab)
    · by_cases d : σ z = b
      · rw [d, swp_b] at o; rw [d]; exact hR.trans o hab
      · rwa [swp_ne c d] at o
  · have hE := com_equiv h es
    have low : ∀ {x y}, com (fun x => swp a b (σ x)) es x y → com σ es x y := fun {x y} c => by
      refine com_least hE (fun z => ?_) (fun e he => com_pair h he) c
      have o : com σ es z (σ z) := com_sub (Orb.one σ z)
      have ab : com σ es a b := com_sub k
      show com σ es z (swp a b (σ z))
      by_cases c : σ z = a
      · rw [c, swp_a]; rw [c] at o; exact hE.trans o ab
      · by_cases d : σ z = b
        · rw [d, swp_b]; rw [d] at o; exact hE.trans o (hE.symm ab)
        · rwa [swp_ne c d]
    rintro (c | ⟨c, d⟩ | ⟨c, d⟩)
    · exact low c
    · exact hE.trans (low c) (hE.trans (com_sub k) (low d))
    · exact hE.trans (low c) (hE.trans (hE.symm (com_sub k)) (low d))
theorem Flat.split (h : Pm N σ) {es : Prs} (hg : Good N es) {a b : Nat} (ha : a < N) (hb : b < N) (hne : a ≠ b) (k : Orb σ a b) (hf : Flat N σ es) : Flat N (fun x => swp a b (σ x)) es := by
  unfold Flat at hf ⊢
  have h' := h.swp ha hb
  have hE := (euler h' hg).1
  have hp := phi_pm h hg
  have e : phi (fun x => swp a b (σ x)) es = fun x => swp (mate es a) (mate es b) (phi σ es x) := funext fun x => mate_swp es a b (σ x)
  have hc := cl_congr (N := N) (com_split h ha hb es k)
  have hV := cl_part h ha hb hne k
  have hma := hg.mate_lt ha
  have hmb := hg.mate_lt hb
  have hmn : mate es a ≠ mate es b := fun c => hne (mate_inj c)
  rw [e] at hE ⊢
  by_cases d : Orb (phi σ es) (mate es a) (mate es b)
  · have hF := cl_part hp hma hmb hmn d
    by_cases c : com (fun x => swp a b (σ x)) es a b
    · rw [cl_congr (mrg_same (com_equiv h' es) c)] at hc; omega
    · have := cl_mrg (com_equiv h' es) ha hb c
      omega
  · have hF := cl_join hp hma hmb d
    have j := orb_join (a := mate es a) (b := mate es b) hp d
    rw [← e] at j
    have j := orb_com h' hg j
    have hE' := com_equiv h' es
    have c : com (fun x => swp a b (σ x)) es a b := hE'.trans (com_mate h' es a) (hE'.trans j (hE'.symm (com_mate h' es b)))
    rw [cl_congr (mrg_same hE' c)] at hc
    omega
theorem Flat.congr (h : Pm N σ) {es es' : Prs} (hm : ∀ x, mate es x = mate es' x) (hl : es.length = es'.length) (h1 : ∀ e ∈ es, com σ es' e.1 e.2) (h2 : ∀ e ∈ es', com σ es e.1 e.2) (hf : Flat N σ es) : Flat N σ es' := by
  unfold Flat at hf ⊢
  have e : phi σ es = phi σ es' := funext fun x => hm (σ x)
  have c : ∀ x y, com σ es x y ↔ com σ es' x y := fun x y =>
    ⟨fun k => com_least (com_equiv h es') (fun z => com_sub (Orb.one σ z)) h1 k, fun k => com_least (com_equiv h es) (fun z => com_sub (Orb.one σ z)) h2 k⟩
  rw [← e, ← cl_congr c, ← hl]
  exact hf
end
section
variable {N : Nat} {σ : Nat → Nat}
end
end Go.Proofs.Ytcfpdeeipbekfaa.Kn

/- A vertex of two ends left out: plain mathematics. -/
namespace Go.Proofs.Ytcfpdeeipbekfaa.Kn
section
variable {N : Nat} {σ : Nat → Nat}
end
end Go.Proofs.Ytcfpdeeipbekfaa.Kn

/- A kink and a face of two sides taken out, as permutations tell: plain mathematics. -/
namespace Go.Proofs.Ytcfpdeeipbekfaa.Kn
section
variable {N : Nat} {σ : Nat → Nat}
end
end Go.Proofs.Ytcfpdeeipbekfaa.Kn

/- Strands that go on where crossings are taken out: ends that are left, and which one is tied to which: plain mathematics. -/
namespace Go.Proofs.Ytcfpdeeipbekfaa.Kn

theorem com_id_nil {x y : Nat} : com (fun x => x) [] x y ↔ x = y := by
  constructor
  · rintro ⟨n, hn⟩
    have : ∀ n, it (fun x : Nat => x) n x = x := fun n => by
      induction n with
      | zero => rfl
      | succ n ih => exact ih
    rw [← hn, this]
  · rintro rfl; exact Orb.refl _ _
/- what is left of a diagram: the places, which arcs are one, and the place at the other end -/
structure Tied (X : List Cr) (live : Pl → Prop) (E : Nat → Nat → Prop) (o : Pl → Pl) : Prop where
  isP : ∀ p, live p → isPl X p
  lv : ∀ p, live p → live (o p)
  op : ∀ p, live p → cm X (o p) = !cm X p
  eq : ∀ p, live p → E (arcN X p) (arcN X (o p))
  un : ∀ p q, live p → live q → cm X p = cm X q → E (arcN X p) (arcN X q) → p = q
section
variable {X : List Cr} {live : Pl → Prop} {E : Nat → Nat → Prop} {o : Pl → Pl}
theorem Ok.tied (h : Ok X) : Tied X (isPl X) (com (fun x => x) []) (other X) where
  isP := fun _ hp => hp
  lv := fun _ hp => h.isPl_other hp
  op := fun _ hp => h.cm_other hp
  eq := fun _ hp => by rw [h.arc_other hp]; exact com_id_nil.2 rfl
  un := fun p q hp hq hc ha => h.uniq p q hp hq hc (by rw [← h.arcN_eq hp, ← h.arcN_eq hq, com_id_nil.1 ha])
theorem Tied.oo (h : Tied X live E o) (hE : Equivalence E) {p : Pl} (hp : live p) : o (o p) = p :=
  h.un _ _ (h.lv _ (h.lv _ hp)) hp (by rw [h.op _ (h.lv _ hp), h.op _ hp, Bool.not_not]) (hE.symm (hE.trans (h.eq _ hp) (h.eq _ (h.lv _ hp))))
theorem Tied.ne (h : Tied X live E o) {p : Pl} (hp : live p) : o p ≠ p := fun e => by
  have := h.op p hp
  rw [e] at this
  cases hh : cm X p <;> simp [hh] at this
theorem Tied.congr (h : Tied X live E o) {live' : Pl → Prop} {E' : Nat → Nat → Prop} {o' : Pl → Pl} (h1 : ∀ p, live' p ↔ live p) (h2 : ∀ x y, E' x y ↔ E x y) (h3 : ∀ p, live p → o' p = o p) : Tied X live' E' o' where
  isP := fun p hp => h.isP p ((h1 p).1 hp)
  lv := fun p hp => by rw [h3 p ((h1 p).1 hp)]; exact (h1 _).2 (h.lv p ((h1 p).1 hp))
  op := fun p hp => by rw [h3 p ((h1 p).1 hp)]; exact h.op p ((h1 p).1 hp)
  eq := fun p hp => by rw [h3 p ((h1 p).1 hp)]; exact (h2 _ _).2 (h.eq p ((h1 p).1 hp))
  un := fun p q hp hq hc ha => h.un p q ((h1 p).1 hp) ((h1 q).1 hq) hc ((h2 _ _).1 ha)
theorem Tied.step (h : Tied X live E o) (hE : Equivalence E) {u v : Pl} (hu : live u) (hv : live v) (hc : cm X v = !cm X u) :
    Tied X (fun p => live p ∧ p ≠ u ∧ p ≠ v) (mrg E (arcN X u) (arcN X v)) (fun p => if o p = u then o v else if o p = v then o u else o p) where
  isP := fun p hp => h.isP p hp.1
  lv := fun p ⟨hp, h1, h2⟩ => by
    show live (if _ then _ else _) ∧ _
    by_cases c : o p = u
    · simp only [if_pos c]
      refine ⟨h.lv v hv, fun e => h2 ?_, h.ne hv⟩
      rw [← h.oo hE hp, c, ← e, h.oo hE hv]
    · simp only [if_neg c]
      by_cases d : o p = v
      · simp only [if_pos d]
        refine ⟨h.lv u hu, h.ne hu, fun e => h1 ?_⟩
        rw [← h.oo hE hp, d, ← e, h.oo hE hu]
      · simp only [if_neg d]
        exact ⟨h.lv p hp, c, d⟩
  op := fun p ⟨hp, _, _⟩ => by
    have hop := h.op p hp
    by_cases c : o p = u
    · simp only [if_pos c]
      rw [c] at hop
      rw [h.op v hv, hc, hop]; simp
    · simp only [if_neg c]
      by_cases d : o p = v
      · simp only [if_pos d]
        rw [d, hc] at hop
        rw [h.op u hu, hop]
      · simp only [if_neg d]; exact hop
  eq := fun p ⟨hp, _, _⟩ => by
    have he := h.eq p hp
    by_cases c : o p = u
    · simp only [if_pos c]
      rw [c] at he
      exact .inr (.inl ⟨he, h.eq v hv⟩)
    · simp only [if_neg c]
      by_cases d : o p = v
      · simp only [if_pos d]
        rw [d] at he
        exact .inr (.inr ⟨he, h.eq u hu⟩)
      · simp only [if_neg d]; exact .inl he
  un := fun p q ⟨hp, p1, p2⟩ ⟨hq, q1, q2⟩ hcm ha => by
    rcases ha with ha | ⟨h1, h2⟩ | ⟨h1, h2⟩
    · exact h.un p q hp hq hcm ha
    · by_cases c : cm X p = cm X u
      · exact absurd (h.un p u hp hu c h1) p1
      · refine absurd (h.un v q hv hq ?_ h2).symm q2
        rw [hc, ← hcm]
        cases hh : cm X p <;> cases hk : cm X u <;> simp [hh, hk] at c <;> rfl
    · by_cases c : cm X p = cm X v
      · exact absurd (h.un p v hp hv c h1) p2
      · refine absurd (h.un u q hu hq ?_ h2).symm q1
        rw [← hcm]
        rw [hc] at c
        cases hh : cm X p <;> cases hk : cm X u <;> simp [hh, hk] at c <;> rfl
/- two crossings passed one behind the other -/
theorem Tied.pass (h : Tied X live E o) (hE : Equivalence E) {A C a c : Pl} (hA : live A) (hC : live C) (ha : live a) (hc : live c) (hAC : cm X C = !cm X A) (hac : cm X c = !cm X a)
    (hoA : o A = a) (n1 : A ≠ c) (n2 : C ≠ a) (n3 : C ≠ c) (n4 : A ≠ C) (n5 : a ≠ c) :
    Tied X (fun p => live p ∧ p ≠ A ∧ p ≠ C ∧ p ≠ a ∧ p ≠ c) (mrg (mrg E (arcN X A) (arcN X C)) (arcN X a) (arcN X c)) (fun p => if o p = C then o c else if o p = c then o C else o p) := by
  have n6 : a ≠ A := fun e => h.ne hA (hoA.trans e)
  have hoa : o a = A := by rw [← hoA, h.oo hE hA]
  have inj : ∀ {p q}, live p → live q → o p = o q → p = q := fun {p q} hp hq e => by rw [← h.oo hE hp, e, h.oo hE hq]
  have s1 := h.step hE hA hC hAC
  have s2 := s1.step (mrg_equiv hE _ _) (u := a) (v := c) ⟨ha, n6, fun e => n2 e.symm⟩ ⟨hc, fun e => n1 e.symm, fun e => n3 e.symm⟩ hac
  refine s2.congr (fun p => ?_) (fun _ _ => Iff.rfl) fun p hp => ?_
  · constructor
    · rintro ⟨h1, h2, h3, h4, h5⟩; exact ⟨⟨h1, h2, h3⟩, h4, h5⟩
    · rintro ⟨⟨h1, h2, h3⟩, h4, h5⟩; exact ⟨h1, h2, h3, h4, h5⟩
  · obtain ⟨⟨hp, p1, p2⟩, p3, p4⟩ := hp
    have oA : o p ≠ A := fun e => p3 (inj hp ha (e.trans hoa.symm))
    have oa : o p ≠ a := fun e => p1 (inj hp hA (e.trans hoA.symm))
    have ocA : o c ≠ A := fun e => n5 (inj hc ha (e.trans hoa.symm)).symm
    have vp : (if o p = A then o C else if o p = C then o A else o p) = if o p = C then a else o p := by rw [if_neg oA, hoA]
    have vc : (if o c = A then o C else if o c = C then o A else o c) = if o c = C then a else o c := by rw [if_neg ocA, hoA]
    have va : (if o a = A then o C else if o a = C then o A else o a) = o C := by rw [if_pos hoa]
    simp only [vp, vc, va]
    by_cases c1 : o p = C
    · rw [if_pos c1, if_pos c1, if_pos rfl]
      have : o c ≠ C := fun e => p4 (inj hp hc (c1.trans e.symm))
      rw [if_neg this]
    · rw [if_neg c1, if_neg c1, if_neg oa]
end
end Go.Proofs.Ytcfpdeeipbekfaa.Kn

/- A diagram whose crossings are some of another one's: it may be; and it is planar, if what is left is: plain mathematics. -/
namespace Go.Proofs.Ytcfpdeeipbekfaa.Kn

/- the k-th place where a strand comes in -/
def ip (Y : List Cr) (k : Nat) : Pl := (k / 2, if k % 2 = 0 then 0 else over (cr Y (k / 2)).p)
theorem over_lt (p : Bool) : over p < 4 := by cases p <;> decide
theorem over_pos (p : Bool) : over p ≠ 0 := by cases p <;> decide
theorem ip_pl {Y : List Cr} {k : Nat} (hk : k < nArcs Y) : isPl Y (ip Y k) := by
  unfold nArcs at hk
  refine ⟨by show k / 2 < _; omega, ?_⟩
  show (if k % 2 = 0 then 0 else over (cr Y (k / 2)).p) < 4
  split
  · omega
  · exact over_lt _
theorem ip_cm (Y : List Cr) (k : Nat) : cm Y (ip Y k) = true := by
  unfold cm ip Cr.comes
  simp only
  split <;> simp
theorem ip_inj {Y : List Cr} {j k : Nat} (h : ip Y j = ip Y k) : j = k := by
  unfold ip at h
  injection h with h1 h2
  rw [h1] at h2
  by_cases c : j % 2 = 0 <;> by_cases d : k % 2 = 0
  · omega
  · rw [if_pos c, if_neg d] at h2; exact absurd h2.symm (over_pos _)
  · rw [if_neg c, if_pos d] at h2; exact absurd h2 (over_pos _)
  · omega
structure Cut (X Y : List Cr) (f g : Nat → Nat) (live : Pl → Prop) (E : Nat → Nat → Prop) (o : Pl → Pl) : Prop where
  ok : Ok X
  mono : ∀ i j, i < j → j < Y.length → f i < f j
  lt : ∀ i, i < Y.length → f i < X.length
  alive : ∀ p, isPl X p → (live p ↔ ∃ i, i < Y.length ∧ f i = p.1)
  cr_ : ∀ i, i < Y.length → cr Y i = (cr X (f i)).ren g
  tied : Tied X live E o
  eqv : Equivalence E
  same : ∀ p q, live p → live q → (g (arcN X p) = g (arcN X q) ↔ E (arcN X p) (arcN X q))
  rng : ∀ p, live p → 1 ≤ g (arcN X p) ∧ g (arcN X p) ≤ nArcs Y
section
variable {X Y : List Cr} {f g : Nat → Nat} {live : Pl → Prop} {E : Nat → Nat → Prop} {o : Pl → Pl}
theorem Cut.inj (h : Cut X Y f g live E o) {i j : Nat} (hi : i < Y.length) (hj : j < Y.length) (e : f i = f j) : i = j := by
  rcases Nat.lt_trichotomy i j with c | c | c
  · have := h.mono i j c hj; omega
  · exact c
  · have := h.mono j i c hi; omega
theorem Cut.pl (h : Cut X Y f g live E o) {p : Pl} (hp : isPl Y p) : isPl X (onP f p) := ⟨h.lt _ hp.1, hp.2⟩
theorem Cut.liv (h : Cut X Y f g live E o) {p : Pl} (hp : isPl Y p) : live (onP f p) := (h.alive _ (h.pl hp)).2 ⟨p.1, hp.1, rfl⟩
theorem Cut.back (h : Cut X Y f g live E o) {q : Pl} (hq : live q) : ∃ p, isPl Y p ∧ onP f p = q := by
  obtain ⟨i, hi, e⟩ := (h.alive q (h.tied.isP q hq)).1 hq
  exact ⟨(i, q.2), ⟨hi, (h.tied.isP q hq).2⟩, by unfold onP; rw [e]⟩
theorem Cut.at_ (h : Cut X Y f g live E o) {p : Pl} (hp : isPl Y p) : at_ Y p = (g (arcN X (onP f p)) : Nat) := by
  unfold Kn.at_ arcN Kn.at_ onP
  rw [h.cr_ _ hp.1, ren_arc]
theorem Cut.arcN (h : Cut X Y f g live E o) {p : Pl} (hp : isPl Y p) : arcN Y p = g (arcN X (onP f p)) := by unfold Kn.arcN; rw [h.at_ hp]; rfl
theorem Cut.cm (h : Cut X Y f g live E o) {p : Pl} (hp : isPl Y p) : cm Y p = cm X (onP f p) := by
  unfold Kn.cm onP
  rw [h.cr_ _ hp.1]; rfl
theorem Cut.onP_inj (h : Cut X Y f g live E o) {p q : Pl} (hp : isPl Y p) (hq : isPl Y q) (e : onP f p = onP f q) : p = q := by
  obtain ⟨a, b⟩ := p
  obtain ⟨c, d⟩ := q
  unfold onP at e
  injection e with e1 e2
  simp only at e1 e2
  have e3 : a = c := h.inj hp.1 hq.1 e1
  rw [e3, e2]
theorem Cut.uniq (h : Cut X Y f g live E o) {p q : Pl} (hp : isPl Y p) (hq : isPl Y q) (hc : Kn.cm Y p = Kn.cm Y q) (ha : Kn.at_ Y p = Kn.at_ Y q) : p = q := by
  rw [h.at_ hp, h.at_ hq, Int.ofNat_inj] at ha
  exact h.onP_inj hp hq (h.tied.un _ _ (h.liv hp) (h.liv hq) (by rw [← h.cm hp, ← h.cm hq, hc]) ((h.same _ _ (h.liv hp) (h.liv hq)).1 ha))
theorem Cut.okY (h : Cut X Y f g live E o) : Ok Y := by
  refine ok_mk (fun p hp => ?_) (fun io a ha => ?_) fun p q hp hq hc ha => h.uniq hp hq hc ha
  · rw [h.at_ hp]
    have := h.rng _ (h.liv hp); omega
  · have hin : ∃ p, isPl Y p ∧ Kn.cm Y p = true ∧ Kn.at_ Y p = a := by
      have hr : ∀ k, k < nArcs Y → 1 ≤ Kn.arcN Y (ip Y k) ∧ Kn.arcN Y (ip Y k) ≤ nArcs Y := fun k hk => by
        rw [h.arcN (ip_pl hk)]; exact h.rng _ (h.liv (ip_pl hk))
      have P := inj_perm (l := List.range (nArcs Y)) List.nodup_range (f := fun k => Kn.arcN Y (ip Y k) - 1) (fun k hk => by
        rw [List.mem_range] at hk ⊢
        have := hr k hk; omega) fun j hj k hk e => by
        rw [List.mem_range] at hj hk
        have h1 := hr j hj
        have h2 := hr k hk
        have e : Kn.arcN Y (ip Y j) = Kn.arcN Y (ip Y k) := by omega
        rw [h.arcN (ip_pl hj), h.arcN (ip_pl hk)] at e
        refine ip_inj (h.uniq (ip_pl hj) (ip_pl hk) (by rw [ip_cm, ip_cm]) ?_)
        rw [h.at_ (ip_pl hj), h.at_ (ip_pl hk), e]
      obtain ⟨k, hk, e⟩ := List.mem_map.1 (P.mem_iff.2 (List.mem_range.2 (show a - 1 < nArcs Y by have := ha.1; have := ha.2; omega)))
      rw [List.mem_range] at hk
      refine ⟨ip Y k, ip_pl hk, ip_cm Y k, ?_⟩
      have h1 := hr k hk
      have := ha.1
      have e2 : g (Kn.arcN X (onP f (ip Y k))) = a := by rw [← h.arcN (ip_pl hk)]; omega
      rw [h.at_ (ip_pl hk), e2]
    obtain ⟨p, hp, hc, ha'⟩ := hin
    cases io with
    | true => exact ⟨p, hp, hc, ha'⟩
    | false =>
      obtain ⟨q, hq, e⟩ := h.back (h.tied.lv _ (h.liv hp))
      refine ⟨q, hq, ?_, ?_⟩
      · rw [h.cm hq, e, h.tied.op _ (h.liv hp), ← h.cm hp, hc]; rfl
      · rw [← ha', h.at_ hq, h.at_ hp, e, Int.ofNat_inj]
        exact ((h.same _ _ (h.liv hp) (h.tied.lv _ (h.liv hp))).2 (h.tied.eq _ (h.liv hp))).symm
theorem Cut.other (h : Cut X Y f g live E o) {p : Pl} (hp : isPl Y p) : onP f (other Y p) = o (onP f p) := by
  have hY := h.okY
  obtain ⟨q, hq, e⟩ := h.back (h.tied.lv _ (h.liv hp))
  rw [← e]
  congr 1
  refine h.uniq (hY.isPl_other hp) hq ?_ ?_
  · rw [hY.cm_other hp, h.cm hq, e, h.tied.op _ (h.liv hp), h.cm hp]
  · rw [← hY.arcN_eq (hY.isPl_other hp), hY.arc_other hp, h.at_ hq, h.arcN hp, e, Int.ofNat_inj]
    exact (h.same _ _ (h.liv hp) (h.tied.lv _ (h.liv hp))).2 (h.tied.eq _ (h.liv hp))
end

section
variable {N : Nat} {σ : Nat → Nat}
theorem Dis.len : ∀ {es : Prs}, Good N es → Dis es → cl N (Orb (mate es)) + es.length = N
  | [], _, _ => by
    show cl N (Orb fun x => x) + 0 = N
    have : cl N (Orb fun x : Nat => x) = cl N (fun x y => x = y) := cl_congr fun x y => (com_id_nil (x := x) (y := y))
    rw [this]
    unfold cl
    have hl : (List.range N).countP (fun d => tr (Least (fun x y : Nat => x = y) d)) = (List.range N).length := List.countP_eq_length.2 fun y _ => tr_iff.2 fun e he (r : e = y) => by omega
    rw [hl, List.length_range]; rfl
  | e :: es, hg, hd => by
    have i := Dis.len hg.tail hd.tail
    obtain ⟨h1, h2, h3⟩ := hg e (by simp)
    have hp : Pm N (phi (fun x => x) es) := phi_pm ⟨fun _ h => h, fun _ _ => rfl, fun _ _ h => h⟩ hg.tail
    have hno : ¬ Orb (mate es) e.1 e.2 := by
      rintro ⟨n, hn⟩
      have : ∀ n, it (mate es) n e.1 = e.1 := fun n => by
        induction n with
        | zero => rfl
        | succ n ih => rw [it, ih, mate_out hd.out.1]
      rw [this] at hn
      exact h3 hn
    have j := cl_join (f := mate es) hp h1 h2 hno
    show cl N (Orb fun x => swp e.1 e.2 (mate es x)) + (es.length + 1) = N
    omega
theorem Flat.same (h : Pm N σ) {es es' : Prs} (hg : Good N es) (hd : Dis es) (hg' : Good N es') (hd' : Dis es') (hm : ∀ x, mate es x = mate es' x) (hf : Flat N σ es) : Flat N σ es' := by
  have e : mate es = mate es' := funext hm
  have h1 := Dis.len hg hd
  have h2 := Dis.len hg' hd'
  rw [e] at h1
  refine hf.congr h hm (by omega) (fun d he => ?_) fun d he => ?_
  · rw [← (mate_pair hd he).1, hm]; exact com_mate h es' d.1
  · rw [← (mate_pair hd' he).1, ← hm]; exact com_mate h es d.1
end
end Go.Proofs.Ytcfpdeeipbekfaa.Kn

/- A diagram whose crossings are some of another one's is planar, if what is left is: plain mathematics. -/
namespace Go.Proofs.Ytcfpdeeipbekfaa.Kn

section
variable {X Y : List Cr} {f g : Nat → Nat} {live : Pl → Prop} {E : Nat → Nat → Prop} {o : Pl → Pl}
end
end Go.Proofs.Ytcfpdeeipbekfaa.Kn

/- A diagram without some crossings, whose arcs are numbered anew: plain mathematics. -/
namespace Go.Proofs.Ytcfpdeeipbekfaa.Kn

structure Rep (f : Nat → Nat) (E : Nat → Nat → Prop) : Prop where
  iff : ∀ a b, f a = f b ↔ E a b
  le : ∀ a, f a ≤ a
  idem : ∀ a, f (f a) = f a
  pos : ∀ a, 1 ≤ a → 1 ≤ f a
/- two classes made one: the lower number is kept -/
def joinF (f : Nat → Nat) (u v a : Nat) : Nat := if f a = max (f u) (f v) then min (f u) (f v) else f a
theorem Rep.id : Rep (fun a => a) (com (fun x => x) []) := ⟨fun _ _ => com_id_nil.symm, fun _ => Nat.le_refl _, fun _ => rfl, fun _ h => h⟩
theorem Rep.join {f : Nat → Nat} {E : Nat → Nat → Prop} (h : Rep f E) {u v : Nat} (hu : 1 ≤ u) (hv : 1 ≤ v) : Rep (joinF f u v) (mrg E u v) := by
  have p1 := h.pos u hu
  have p2 := h.pos v hv
  refine ⟨fun a b => ?_, fun a => ?_, fun a => ?_, fun a ha => ?_⟩
  · have key : joinF f u v a = joinF f u v b ↔ f a = f b ∨ (f a = f u ∧ f v = f b) ∨ (f a = f v ∧ f u = f b) := by
      unfold joinF
      by_cases c : f a = max (f u) (f v) <;> by_cases d : f b = max (f u) (f v)
      · rw [if_pos c, if_pos d]; omega
      · rw [if_pos c, if_neg d]; omega
      · rw [if_neg c, if_pos d]; omega
      · rw [if_neg c, if_neg d]; omega
    rw [key, h.iff, h.iff, h.iff, h.iff, h.iff]; rfl
  · unfold joinF
    have := h.le a
    split <;> omega
  · have i1 := h.idem a
    have i2 := h.idem u
    have i3 := h.idem v
    have m : min (f u) (f v) = f u ∨ min (f u) (f v) = f v := by omega
    unfold joinF
    by_cases c : f a = max (f u) (f v)
    · rw [if_pos c]
      rcases m with m | m
      · rw [m, i2]; split <;> omega
      · rw [m, i3]; split <;> omega
    · rw [if_neg c, i1, if_neg c]
  · unfold joinF
    have := h.pos a ha
    split <;> omega

section
variable {X : List Cr} {f : Nat → Nat} {gone : Nat → Bool}
end
end Go.Proofs.Ytcfpdeeipbekfaa.Kn

/- Strands as orbits; what is built of a walk; a planar knot's visits of a crossing lie at an odd and at an even place: plain mathematics. -/
namespace Go.Proofs.Ytcfpdeeipbekfaa.Kn

section
variable {M : Nat} {f : Nat → Nat}
end

/- strands -/
instance (X : List Cr) (a : Nat) : Decidable (isArc X a) := inferInstanceAs (Decidable (_ ∧ _))
def nxt (X : List Cr) (a : Nat) : Nat := if isArc X a then nextA X a else a
theorem comes_opp (x : Cr) {s : Nat} (hs : s < 4) : x.comes ((s + 2) % 4) = !x.comes s := by
  unfold Cr.comes over
  cases x.p <;> match s, hs with
    | 0, _ => rfl
    | 1, _ => rfl
    | 2, _ => rfl
    | 3, _ => rfl
section
variable {X : List Cr}
theorem cm_opp {p : Pl} (hp : isPl X p) : cm X (p.1, (p.2 + 2) % 4) = !cm X p := comes_opp _ hp.2
theorem Ok.next_inj (h : Ok X) {a b : Nat} (ha : Kn.isArc X a) (hb : Kn.isArc X b) (e : nextA X a = nextA X b) : a = b := by
  have p1 := h.isPl_end (io := true) ha
  have p2 := h.isPl_end (io := true) hb
  have q1 := isPl_turn p1 2
  have q2 := isPl_turn p2 2
  have e1 : at_ X ((endP X true a).1, ((endP X true a).2 + 2) % 4) = at_ X ((endP X true b).1, ((endP X true b).2 + 2) % 4) := by
    rw [← h.arcN_eq q1, ← h.arcN_eq q2]
    exact congrArg _ e
  have e2 := h.uniq _ _ q1 q2 (by rw [cm_opp p1, cm_opp p2, h.cm_end ha, h.cm_end hb]) e1
  injection e2 with e3 e4
  have e5 : endP X true a = endP X true b := Prod.ext e3 (by have := p1.2; have := p2.2; omega)
  rw [← h.arc_end (io := true) ha, e5, h.arc_end hb]
theorem Ok.nxt_pm (h : Ok X) : Pm (nArcs X + 1) (nxt X) := by
  have key : ∀ x, Kn.isArc X x → Kn.isArc X (nxt X x) := fun x hx => by
    unfold nxt; rw [if_pos hx]; exact h.isArc_next hx
  refine ⟨fun x hx => ?_, fun x hx => ?_, fun x y e => ?_⟩
  · by_cases c : Kn.isArc X x
    · have := (key x c).2; omega
    · unfold nxt; rw [if_neg c]; exact hx
  · unfold nxt; rw [if_neg (fun c => by have := c.2; omega)]
  · by_cases c : Kn.isArc X x
    · by_cases d : Kn.isArc X y
      · unfold nxt at e; rw [if_pos c, if_pos d] at e; exact h.next_inj c d e
      · have := key x c
        rw [e] at this
        unfold nxt at this; rw [if_neg d] at this
        exact absurd this d
    · by_cases d : Kn.isArc X y
      · have := key y d
        rw [← e] at this
        unfold nxt at this; rw [if_neg c] at this
        exact absurd this c
      · unfold nxt at e; rw [if_neg c, if_neg d] at e; exact e
theorem Ok.strands_nxt (h : Ok X) : rings (nxt X) (nArcs X + 1 + 1) [] (arcs X) = strandsL X := by
  have hall : ∀ x ∈ arcs X, nextA X x ∈ arcs X := fun x hx => mem_arcs.2 (h.isArc_next (mem_arcs.1 hx))
  have h1 := rings_map (nx := nextA X) (ny := nxt X) (g := fun a => a) (all := arcs X) (fun _ _ _ _ e => e) hall (fun x hx => by unfold nxt; rw [if_pos (mem_arcs.1 hx)]) (nArcs X + 1 + 1) (ds := arcs X) (seen := []) (fun y hy => by cases hy) (fun y hy => hy)
  have h2 : ∀ {N N' : Nat} {ds seen : List Nat}, nArcs X < N → nArcs X < N' → seen.Nodup → (∀ y ∈ seen, y ∈ arcs X) → (∀ y ∈ ds, y ∈ arcs X) → rings (nextA X) N seen ds = rings (nextA X) N' seen ds := by
    have hr : ∀ {k k' : Nat} {seen : List Nat} {x : Nat}, nArcs X < k + seen.length → nArcs X < k' + seen.length → seen.Nodup → (∀ y ∈ seen, y ∈ arcs X) → x ∈ arcs X → ring (nextA X) k seen x = ring (nextA X) k' seen x := by
      intro k
      induction k with
      | zero =>
        intro k' seen x h1 _ h3 h4 _
        have := nodup_le h3 h4
        rw [arcs_length] at this
        omega
      | succ k ih =>
        intro k' seen x h1 h2 h3 h4 h5
        by_cases c : x ∈ seen
        · rw [ring_seen _ c, ring_seen _ c]
        · cases k' with
          | zero =>
            have := nodup_le h3 h4
            rw [arcs_length] at this
            omega
          | succ k' =>
            rw [ring_new _ c, ring_new _ c]
            rw [ih (k' := k') (by simp; omega) (by simp; omega) (nodup_snoc h3 c) (fun y hy => by
              rcases List.mem_append.1 hy with hy | hy
              · exact h4 y hy
              · rw [List.mem_singleton] at hy; exact hy ▸ h5) (hall x h5)]
    intro N N' ds
    induction ds with
    | nil => intro seen _ _ _ _ _; rw [rings_nil, rings_nil]
    | cons d ds ih =>
      intro seen h1 h2 h3 h4 h5
      have hd := h5 d (by simp)
      by_cases c : d ∈ seen
      · rw [rings_seen _ c, rings_seen _ c]
        exact ih h1 h2 h3 h4 fun y hy => h5 y (by simp [hy])
      · rw [rings_new _ c, rings_new _ c, hr (k := N) (k' := N') (by omega) (by omega) h3 h4 hd]
        congr 1
        refine ih h1 h2 (ring_nodup _ _ d h3) (fun y hy => ?_) fun y hy => h5 y (by simp [hy])
        rcases List.mem_append.1 hy with hy | hy
        · exact h4 y hy
        · exact ring_sub _ hall _ _ hd y hy
  have h3 : (rings (nextA X) (nArcs X + 1 + 1) [] (arcs X)).map (List.map fun a => a) = rings (nextA X) (nArcs X + 1 + 1) [] (arcs X) := by
    conv => rhs; rw [← List.map_id (rings (nextA X) (nArcs X + 1 + 1) [] (arcs X))]
    refine List.map_congr_left fun l _ => ?_
    simp
  rw [List.map_nil, List.map_id', h3] at h1
  rw [h1]
  exact h2 (by omega) (by omega) (by simp) (fun y hy => by cases hy) (fun y hy => hy)
theorem arcs_lt {y : Nat} (hy : y ∈ arcs X) : y < nArcs X + 1 := by have := (mem_arcs.1 hy).2; omega
theorem Ok.strands_is (h : Ok X) : ∀ r ∈ strandsL X, ∀ x ∈ r, ∀ y, y ∈ r ↔ Orb (nxt X) x y := by
  rw [← h.strands_nxt]
  exact rings_is h.nxt_pm (by omega) (by simp) (fun y hy => by cases hy) (fun y hy => by cases hy) fun y hy => arcs_lt hy
theorem strands_arc (h : Ok X) {r : List Nat} (hr : r ∈ strandsL X) {x : Nat} (hx : x ∈ r) : Kn.isArc X x :=
  mem_arcs.1 ((strands_perm h).mem_iff.1 (List.mem_flatten.2 ⟨r, hr, hx⟩))
theorem strands_ne (X : List Cr) : ∀ r ∈ strandsL X, r ≠ [] := rings_ne (nextA X) (by omega) (arcs X) []

end
end Go.Proofs.Ytcfpdeeipbekfaa.Kn

/- A kink taken out, a face of two sides taken out: what is left may be, and is planar: plain mathematics. -/
namespace Go.Proofs.Ytcfpdeeipbekfaa.Kn

section
variable {X : List Cr}
abbrev only (c : Nat) : Nat → Bool := fun d => decide (d = c)
end
end Go.Proofs.Ytcfpdeeipbekfaa.Kn
