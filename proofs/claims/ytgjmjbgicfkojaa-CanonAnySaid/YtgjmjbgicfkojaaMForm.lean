/- Diagrams that are one but for the numbers have one canonical form: plain mathematics. -/
import Derived.Test.YtgjmjbgicfkojaaMInv
namespace Go.Proofs.Ytgjmjbgicfkojaa.Kn

theorem perm_of_sub {l m : List Nat} (hl : l.Nodup) (hm : m.Nodup) (hs : ∀ x ∈ l, x ∈ m) (hlen : m.length ≤ l.length) : l.Perm m := by
  refine (List.perm_ext_iff_of_nodup hl hm).2 fun x => ⟨hs x, fun hx => ?_⟩
  refine Classical.byContradiction fun c => ?_
  have := fuel hl hs c hx
  omega
theorem map_nodup {l : List Nat} {f : Nat → Nat} (hl : l.Nodup) (hinj : ∀ x ∈ l, ∀ y ∈ l, f x = f y → x = y) : (l.map f).Nodup := by
  rw [List.Nodup, List.pairwise_map]
  refine List.Pairwise.imp_of_mem (fun hx hy hne e => ?_) hl
  exact hne (hinj _ hx _ hy e)
theorem inj_perm {l : List Nat} (hl : l.Nodup) {f : Nat → Nat} (hf : ∀ x ∈ l, f x ∈ l) (hinj : ∀ x ∈ l, ∀ y ∈ l, f x = f y → x = y) : (l.map f).Perm l :=
  perm_of_sub (map_nodup hl hinj) hl (fun x hx => by obtain ⟨y, hy, rfl⟩ := List.mem_map.1 hx; exact hf y hy) (by simp)

structure Iso (X Y : List Cr) (f t : Nat → Nat) : Prop where
  len : Y.length = X.length
  lt : ∀ i, i < X.length → f i < X.length
  inj : ∀ i j, i < X.length → j < X.length → f i = f j → i = j
  cr_ : ∀ i, i < X.length → cr Y i = (cr X (f i)).ren t
  tlt : ∀ a, isArc X a → isArc X (t a)
  tinj : ∀ a b, isArc X a → isArc X b → t a = t b → a = b
theorem ren_arc (x : Cr) (t : Nat → Nat) (s : Nat) : (x.ren t).arc s = (t (x.arc s).toNat : Nat) := by
  unfold Cr.ren Cr.arc
  split
  · rfl
  split
  · rfl
  split <;> rfl
theorem ok_mk {X : List Cr} (h1 : ∀ p, isPl X p → 1 ≤ at_ X p ∧ at_ X p ≤ (nArcs X : Int)) (h2 : ∀ (io : Bool) (a : Nat), isArc X a → ∃ p, isPl X p ∧ cm X p = io ∧ at_ X p = a)
    (h3 : ∀ p q, isPl X p → isPl X q → cm X p = cm X q → at_ X p = at_ X q → p = q) : Ok X := by
  refine ⟨h1, fun io a ha hb => ?_, h3⟩
  obtain ⟨p, hp, e1, e2⟩ := h2 io a ⟨ha, hb⟩
  have hp' : 1 ≤ cnt X io (4 * X.length) a := cnt_pos (pk_lt hp) (by rw [pl_pk hp.2]; exact e1) (by rw [pl_pk hp.2]; exact e2)
  obtain ⟨j, hj, e, e3, e4⟩ := last_of hp'
  unfold endP
  rw [e]
  exact ⟨isPl_pl hj, e3, e4⟩

section
variable {X Y : List Cr} {f t : Nat → Nat}
theorem Iso.arcs_eq (h : Iso X Y f t) : nArcs Y = nArcs X := by unfold nArcs; rw [h.len]
theorem Iso.surj (h : Iso X Y f t) {c : Nat} (hc : c < X.length) : ∃ i, i < X.length ∧ f i = c := by
  have := inj_perm (l := List.range X.length) List.nodup_range (f := f) (fun x hx => List.mem_range.2 (h.lt x (List.mem_range.1 hx))) (fun x hx y hy => h.inj x y (List.mem_range.1 hx) (List.mem_range.1 hy))
  obtain ⟨i, hi, e⟩ := List.mem_map.1 (this.mem_iff.2 (List.mem_range.2 hc))
  exact ⟨i, List.mem_range.1 hi, e⟩
theorem Iso.tsurj (h : Iso X Y f t) {c : Nat} (hc : isArc X c) : ∃ i, isArc X i ∧ t i = c := by
  have := inj_perm (l := arcs X) (arcs_nodup X) (f := t) (fun x hx => mem_arcs.2 (h.tlt x (mem_arcs.1 hx))) (fun x hx y hy => h.tinj x y (mem_arcs.1 hx) (mem_arcs.1 hy))
  obtain ⟨i, hi, e⟩ := List.mem_map.1 (this.mem_iff.2 (mem_arcs.2 hc))
  exact ⟨i, mem_arcs.1 hi, e⟩
def onP (f : Nat → Nat) (p : Pl) : Pl := (f p.1, p.2)
theorem Iso.isArc (h : Iso X Y f t) {a : Nat} : isArc Y a ↔ isArc X a := by unfold Kn.isArc; rw [h.arcs_eq]
theorem Iso.isPl (h : Iso X Y f t) {p : Pl} (hp : isPl Y p) : isPl X (onP f p) := ⟨h.lt _ (by have := hp.1; rwa [h.len] at this), hp.2⟩
theorem Iso.at_ (h : Iso X Y f t) {p : Pl} (hp : Kn.isPl Y p) : at_ Y p = (t (arcN X (onP f p)) : Nat) := by
  unfold Kn.at_ arcN Kn.at_ onP
  rw [h.cr_ _ (by have := hp.1; rwa [h.len] at this), ren_arc]
theorem Iso.cm (h : Iso X Y f t) {p : Pl} (hp : Kn.isPl Y p) : cm Y p = cm X (onP f p) := by
  unfold Kn.cm onP
  rw [h.cr_ _ (by have := hp.1; rwa [h.len] at this)]
  rfl
theorem Iso.onP_inj (h : Iso X Y f t) {p q : Pl} (hp : Kn.isPl Y p) (hq : Kn.isPl Y q) (e : onP f p = onP f q) : p = q := by
  obtain ⟨a, b⟩ := p
  obtain ⟨c, d⟩ := q
  unfold onP at e
  injection e with e1 e2
  simp only at e1 e2
  rw [h.inj a c (by have := hp.1; rwa [h.len] at this) (by have := hq.1; rwa [h.len] at this) e1, e2]
theorem Iso.ok (h : Iso X Y f t) (hX : Ok X) : Ok Y := by
  refine ok_mk (fun p hp => ?_) (fun io a ha => ?_) (fun p q hp hq hc ha => ?_)
  · rw [h.at_ hp, h.arcs_eq]
    have := h.tlt _ (hX.isArc (h.isPl hp))
    unfold Kn.isArc at this; omega
  · obtain ⟨b, hb, rfl⟩ := h.tsurj (h.isArc.1 ha)
    have hq := hX.isPl_end (io := io) hb
    obtain ⟨i, hi, e⟩ := h.surj hq.1
    have hp : Kn.isPl Y (i, (endP X io b).2) := ⟨by rw [h.len]; exact hi, hq.2⟩
    have ep : onP f (i, (endP X io b).2) = endP X io b := by unfold onP; rw [e]
    refine ⟨_, hp, ?_, ?_⟩
    · rw [h.cm hp, ep, hX.cm_end hb]
    · rw [h.at_ hp, ep, hX.arc_end hb]
  · refine h.onP_inj hp hq (hX.uniq _ _ (h.isPl hp) (h.isPl hq) (by rw [← h.cm hp, ← h.cm hq, hc]) ?_)
    rw [h.at_ hp, h.at_ hq, Int.ofNat_inj] at ha
    rw [← hX.arcN_eq (h.isPl hp), ← hX.arcN_eq (h.isPl hq), h.tinj _ _ (hX.isArc (h.isPl hp)) (hX.isArc (h.isPl hq)) ha]
theorem Iso.arcN (h : Iso X Y f t) {p : Pl} (hp : Kn.isPl Y p) : arcN Y p = t (arcN X (onP f p)) := by
  unfold Kn.arcN; rw [h.at_ hp]; rfl
theorem Iso.other (h : Iso X Y f t) (hX : Ok X) {p : Pl} (hp : Kn.isPl Y p) : onP f (other Y p) = other X (onP f p) := by
  have hY := h.ok hX
  have ho := hY.isPl_other hp
  have h1 := h.isPl hp
  have h2 := h.isPl ho
  refine hX.uniq _ _ h2 (hX.isPl_other h1) ?_ ?_
  · rw [← h.cm ho, hY.cm_other hp, hX.cm_other h1, h.cm hp]
  · have e : t (Kn.arcN X (onP f (Kn.other Y p))) = t (Kn.arcN X (onP f p)) := by rw [← h.arcN ho, ← h.arcN hp, hY.arc_other hp]
    have := h.tinj _ _ (hX.isArc h2) (hX.isArc h1) e
    rw [← hX.arcN_eq h2, ← hX.arcN_eq (hX.isPl_other h1), hX.arc_other h1, this]
/- what is seen -/
theorem idxOf_map {l : List Nat} {n a : Nat} (hinj : ∀ i j, i < n → j < n → f i = f j → i = j) (hl : ∀ x ∈ l, x < n) (ha : a < n) : (l.map f).idxOf (f a) = l.idxOf a := by
  induction l with
  | nil => rfl
  | cons x xs ih =>
    rw [List.map_cons, List.idxOf_cons, List.idxOf_cons, ih (fun y hy => hl y (by simp [hy]))]
    by_cases c : x = a
    · subst c; simp
    · have : ¬ f x = f a := fun e => c (hinj x a (hl x (by simp)) ha e)
      have e1 : (x == a) = false := by simpa using c
      have e2 : (f x == f a) = false := by simpa using this
      rw [e1, e2]
theorem mem_map_inj {l : List Nat} {n a : Nat} (hinj : ∀ i j, i < n → j < n → f i = f j → i = j) (hl : ∀ x ∈ l, x < n) (ha : a < n) : f a ∈ l.map f ↔ a ∈ l := by
  rw [List.mem_map]
  exact ⟨fun ⟨x, hx, e⟩ => hinj x a (hl x hx) ha e ▸ hx, fun h => ⟨a, h, rfl⟩⟩
structure Rel (n : Nat) (f : Nat → Nat) (s u : Vw) : Prop where
  fst : u.1 = s.1.map f
  snd : u.2 = s.2
  lt : ∀ x ∈ s.1, x < n
theorem Iso.seePl (h : Iso X Y f t) (hX : Ok X) {s u : Vw} (hr : Rel X.length f s u) {p : Pl} (hp : Kn.isPl Y p) : Rel X.length f (seePl Y s p) (seePl X u (onP f p)) := by
  have ho := h.other hX hp
  have hl : (Kn.other Y p).1 < X.length := by have := ((h.ok hX).isPl_other hp).1; rwa [h.len] at this
  have e1 : (Kn.other X (onP f p)).1 = f (Kn.other Y p).1 := by rw [← ho]; rfl
  have e2 : (Kn.other X (onP f p)).2 = (Kn.other Y p).2 := by rw [← ho]; rfl
  unfold Kn.seePl
  refine ⟨?_, ?_, fun x hx => ?_⟩
  · simp only
    rw [e1, hr.fst]
    by_cases c : (Kn.other Y p).1 ∈ s.1
    · rw [if_pos c, if_pos ((mem_map_inj h.inj hr.lt hl).2 c)]
    · rw [if_neg c, if_neg (fun x => c ((mem_map_inj h.inj hr.lt hl).1 x)), List.map_append]; rfl
  · simp only
    rw [e1, e2, hr.snd, hr.fst, idxOf_map h.inj hr.lt hl]
  · simp only at hx
    split at hx
    · exact hr.lt x hx
    · rcases List.mem_append.1 hx with hx | hx
      · exact hr.lt x hx
      · rw [List.mem_singleton] at hx; subst hx; exact hl
theorem Iso.seeC (h : Iso X Y f t) (hX : Ok X) {s u : Vw} (hr : Rel X.length f s u) {i : Nat} (hi : i < X.length) : Rel X.length f (seeC Y s i) (seeC X u (f i)) := by
  have hp : ∀ k, k < 4 → Kn.isPl Y (i, k) := fun k hk => ⟨by rw [h.len]; exact hi, hk⟩
  have h0 : Rel X.length f (s.1, s.2 ++ [plusI (cr Y i)]) (u.1, u.2 ++ [plusI (cr X (f i))]) := by
    refine ⟨hr.fst, ?_, hr.lt⟩
    simp only
    rw [hr.snd, h.cr_ i hi]; rfl
  exact h.seePl hX (h.seePl hX (h.seePl hX (h.seePl hX h0 (hp 0 (by omega))) (hp 1 (by omega))) (hp 2 (by omega))) (hp 3 (by omega))
theorem Iso.seeG (h : Iso X Y f t) (hX : Ok X) : ∀ (k i : Nat) {s u : Vw}, Rel X.length f s u → Rel X.length f (seeG Y k i s) (seeG X k i u)
  | 0, _, s, u, hr => by rw [Kn.seeG, Kn.seeG]; exact hr
  | k + 1, i, s, u, hr => by
    rw [Kn.seeG, Kn.seeG]
    have hl : u.1.length = s.1.length := by rw [hr.fst]; simp
    by_cases c : i < s.1.length
    · rw [if_pos c, if_pos (by omega)]
      refine h.seeG hX k (i + 1) ?_
      have e : u.1.getD i 0 = f (s.1.getD i 0) := by
        rw [List.getD_eq_getElem?_getD, List.getD_eq_getElem?_getD, hr.fst, List.getElem?_map, List.getElem?_eq_getElem c]; rfl
      rw [e]
      exact h.seeC hX hr (hr.lt _ (getD_mem c))
    · rw [if_neg c, if_neg (by omega)]; exact hr
theorem Iso.see (h : Iso X Y f t) (hX : Ok X) {i : Nat} (hi : i < X.length) : Rel X.length f (see Y i) (see X (f i)) := by
  unfold Kn.see
  rw [h.len]
  exact h.seeG hX _ _ ⟨rfl, rfl, fun x hx => by rw [List.mem_singleton] at hx; subst hx; exact hi⟩
theorem Iso.con (h : Iso X Y f t) (hX : Ok X) {i j : Nat} (hi : i < X.length) (hj : j < X.length) : Con Y i j ↔ Con X (f i) (f j) := by
  have hr := h.see hX hi
  rw [← (h.ok hX).mem_see (by rw [h.len]; exact hi), ← hX.mem_see (h.lt i hi), hr.fst, mem_map_inj h.inj hr.lt hj]
end

/- the best code of a piece -/
def IsBest (X : List Cr) (c : Nat) (k : List Int) : Prop := (∃ d, Con X c d ∧ (see X d).2 = k) ∧ ∀ d, Con X c d → cmpL k (see X d).2 ≤ 0
theorem IsBest.uniq {X : List Cr} {c : Nat} {k k' : List Int} (h : IsBest X c k) (h' : IsBest X c k') : k = k' := by
  obtain ⟨d, hd, rfl⟩ := h.1
  obtain ⟨d', hd', rfl⟩ := h'.1
  have h1 := h.2 d' hd'
  have h2 := h'.2 d hd
  have h3 := cmpL_anti (see X d).2 (see X d').2
  exact cmpL_zero.1 (by omega)
theorem Iso.best {X Y : List Cr} {f t : Nat → Nat} (h : Iso X Y f t) (hX : Ok X) {i : Nat} (hi : i < X.length) {k : List Int} : IsBest Y i k ↔ IsBest X (f i) k := by
  have hY := h.ok hX
  have hiY : i < Y.length := by rw [h.len]; exact hi
  constructor
  · rintro ⟨⟨d, hd, rfl⟩, h2⟩
    have hdl : d < X.length := by have := hY.con_lt hiY hd; rwa [h.len] at this
    refine ⟨⟨f d, (h.con hX hi hdl).1 hd, (h.see hX hdl).snd⟩, fun e he => ?_⟩
    obtain ⟨j, hj, rfl⟩ := h.surj (hX.con_lt (h.lt i hi) he)
    rw [(h.see hX hj).snd]
    exact h2 j ((h.con hX hi hj).2 he)
  · rintro ⟨⟨d, hd, rfl⟩, h2⟩
    obtain ⟨j, hj, rfl⟩ := h.surj (hX.con_lt (h.lt i hi) hd)
    refine ⟨⟨j, (h.con hX hi hj).2 hd, (h.see hX hj).snd.symm⟩, fun e he => ?_⟩
    have hel : e < X.length := by have := hY.con_lt hiY he; rwa [h.len] at this
    rw [← (h.see hX hel).snd]
    exact h2 (f e) ((h.con hX hi hel).1 he)
theorem best_fold (X : List Cr) : ∀ (l : List Nat) (d : Nat), ∃ e, (e = d ∨ e ∈ l) ∧ l.foldl (fun b c => if cmpL (see X c).2 b.2 < 0 then see X c else b) (see X d) = see X e ∧ cmpL (see X e).2 (see X d).2 ≤ 0 ∧ ∀ c ∈ l, cmpL (see X e).2 (see X c).2 ≤ 0
  | [], d => ⟨d, .inl rfl, rfl, by rw [cmpL_self]; omega, fun c hc => by cases hc⟩
  | c :: l, d => by
    rw [List.foldl_cons]
    by_cases h : cmpL (see X c).2 (see X d).2 < 0
    · rw [if_pos h]
      obtain ⟨e, h1, h2, h3, h4⟩ := best_fold X l c
      refine ⟨e, ?_, h2, cmpL_trans h3 (by omega), fun x hx => ?_⟩
      · rcases h1 with rfl | h1
        · exact .inr (by simp)
        · exact .inr (by simp [h1])
      · rcases List.mem_cons.1 hx with rfl | hx
        · exact h3
        · exact h4 x hx
    · rw [if_neg h]
      obtain ⟨e, h1, h2, h3, h4⟩ := best_fold X l d
      refine ⟨e, ?_, h2, h3, fun x hx => ?_⟩
      · rcases h1 with rfl | h1
        · exact .inl rfl
        · exact .inr (by simp [h1])
      · rcases List.mem_cons.1 hx with rfl | hx
        · refine cmpL_trans h3 ?_
          have := cmpL_anti (see X x).2 (see X d).2
          omega
        · exact h4 x hx
theorem best_is (X : List Cr) {l : List Nat} (hl : l ≠ []) : ∃ e, e ∈ l ∧ best X l = see X e ∧ ∀ c ∈ l, cmpL (see X e).2 (see X c).2 ≤ 0 := by
  cases l with
  | nil => exact absurd rfl hl
  | cons d l =>
    obtain ⟨e, h1, h2, h3, h4⟩ := best_fold X l d
    refine ⟨e, ?_, h2, fun c hc => ?_⟩
    · rcases h1 with rfl | h1 <;> simp [*]
    · rcases List.mem_cons.1 hc with rfl | hc
      · exact h3
      · exact h4 c hc
theorem IsPiece.see_perm {X : List Cr} {l : List Nat} (h : IsPiece X l) (hX : Ok X) {c : Nat} (hc : c ∈ l) : (see X c).1.Perm l :=
  (List.perm_ext_iff_of_nodup (hX.see_piece (h.con c hc).1).nodup h.nodup).2 fun x => (hX.mem_see (h.con c hc).1).trans ((h.con c hc).2 x).symm
theorem IsPiece.best {X : List Cr} {l : List Nat} (h : IsPiece X l) {c : Nat} (hc : c ∈ l) : IsBest X c (Kn.best X l).2 := by
  obtain ⟨e, he, h1, h2⟩ := best_is X h.ne
  rw [h1]
  exact ⟨⟨e, ((h.con c hc).2 e).1 he, rfl⟩, fun d hd => h2 d (((h.con c hc).2 d).2 hd)⟩
theorem IsPiece.best_len {X : List Cr} {l : List Nat} (h : IsPiece X l) (hX : Ok X) : (Kn.best X l).2.length = 9 * l.length := by
  obtain ⟨e, he, h1, _⟩ := best_is X h.ne
  rw [h1, hX.code_len (h.con e he).1, (h.see_perm hX he).length_eq]
theorem count_best {X : List Cr} (hX : Ok X) (k : List Int) {P : Nat → Bool} (hP : ∀ c, P c = true ↔ IsBest X c k) : ∀ (L : List (List Nat)), (∀ l ∈ L, IsPiece X l) → 9 * L.flatten.countP P = (L.map fun l => (best X l).2).count k * k.length
  | [], _ => by simp
  | l :: L, h => by
    have ih := count_best hX k hP L fun x hx => h x (by simp [hx])
    have hl := h l (by simp)
    rw [List.flatten_cons, List.countP_append, List.map_cons, List.count_cons, Nat.mul_add, ih, Nat.add_mul, Nat.add_comm]
    congr 1
    by_cases c : (best X l).2 = k
    · have e1 : ((best X l).2 == k) = true := by simpa using c
      have e2 : l.countP P = l.length := List.countP_eq_length.2 fun x hx => (hP x).2 (c ▸ hl.best hx)
      rw [e1, e2, ← c, hl.best_len hX]; simp
    · have e1 : ((best X l).2 == k) = false := by simpa using c
      have e2 : l.countP P = 0 := List.countP_eq_zero.2 fun x hx hb => c ((hl.best hx).uniq ((hP x).1 hb))
      rw [e1, e2]; simp
theorem exists_bool (P : Nat → Prop) : ∃ Q : Nat → Bool, ∀ c, Q c = true ↔ P c :=
  ⟨fun c => @decide (P c) (Classical.propDecidable _), fun c => @decide_eq_true_iff (P c) (Classical.propDecidable _)⟩
theorem Iso.codes {X Y : List Cr} {f t : Nat → Nat} (h : Iso X Y f t) (hX : Ok X) : ((piecesL Y).map fun l => (Kn.best Y l).2).Perm ((piecesL X).map fun l => (Kn.best X l).2) := by
  have hY := h.ok hX
  rw [List.perm_iff_count]
  intro k
  obtain ⟨P, hP⟩ := exists_bool fun c => IsBest X c k
  obtain ⟨Q, hQ⟩ := exists_bool fun c => IsBest Y c k
  have h1 := count_best hX k hP _ hX.pieces_is
  have h2 := count_best hY k hQ _ hY.pieces_is
  have h3 : (piecesL Y).flatten.countP Q = (piecesL X).flatten.countP P := by
    rw [hX.pieces_perm.countP_eq, hY.pieces_perm.countP_eq, h.len]
    have hp := inj_perm (l := List.range X.length) List.nodup_range (f := f) (fun x hx => List.mem_range.2 (h.lt x (List.mem_range.1 hx))) (fun x hx y hy => h.inj x y (List.mem_range.1 hx) (List.mem_range.1 hy))
    rw [← hp.countP_eq P, List.countP_map]
    refine List.countP_congr fun x hx => ?_
    simp only [Function.comp, hP, hQ]
    exact h.best hX (List.mem_range.1 hx)
  rw [h3, h1] at h2
  by_cases c : k.length = 0
  · have hk : k = [] := List.eq_nil_of_length_eq_zero c
    have z : ∀ {Z : List Cr}, Ok Z → ((piecesL Z).map fun l => (Kn.best Z l).2).count k = 0 := fun {Z} hZ => List.count_eq_zero.2 fun hm => by
      obtain ⟨l, hl, e⟩ := List.mem_map.1 hm
      have h4 := (hZ.pieces_is l hl).best_len hZ
      have h5 : 0 < l.length := List.length_pos_iff.2 (hZ.pieces_is l hl).ne
      rw [e, c] at h4; omega
    rw [z hX, z hY]
  · exact (Nat.eq_of_mul_eq_mul_right (by omega) h2).symm

/- views in order -/
theorem cmpV_anti (a b : Vw) : cmpV b a = -cmpV a b := by
  unfold cmpV
  have := cmpL_anti a.2 b.2
  split <;> split <;> omega
theorem cmpV_trans {a b c : Vw} (h : cmpV a b ≤ 0) (k : cmpV b c ≤ 0) : cmpV a c ≤ 0 := by
  unfold cmpV at h k ⊢
  split at h <;> split at k <;> split
  · exact cmpL_trans h k
  all_goals omega
theorem insV_perm (x : Vw) : ∀ l, (insV x l).Perm (x :: l)
  | [] => .refl _
  | y :: ys => by
    rw [insV]; split
    · exact .refl _
    · exact ((insV_perm x ys).cons y).trans (.swap _ _ _)
theorem insV_sorted (x : Vw) : ∀ {l : List Vw}, l.Pairwise (fun a b => cmpV a b ≤ 0) → (insV x l).Pairwise (fun a b => cmpV a b ≤ 0)
  | [], _ => by rw [insV]; simp
  | y :: ys, h => by
    rw [List.pairwise_cons] at h
    rw [insV]; split
    · next c =>
      rw [List.pairwise_cons, List.pairwise_cons]
      refine ⟨fun z hz => ?_, h⟩
      rcases List.mem_cons.1 hz with rfl | hz
      · omega
      · exact cmpV_trans (b := y) (by omega) (h.1 z hz)
    · next c =>
      rw [List.pairwise_cons]
      refine ⟨fun z hz => ?_, insV_sorted x h.2⟩
      rcases List.mem_cons.1 ((insV_perm x ys).mem_iff.1 hz) with rfl | hz
      · have := cmpV_anti z y; omega
      · exact h.1 z hz
theorem sortV_fold : ∀ (l s : List Vw), s.Pairwise (fun a b => cmpV a b ≤ 0) → (l.foldl (fun s x => insV x s) s).Perm (s ++ l) ∧ (l.foldl (fun s x => insV x s) s).Pairwise (fun a b => cmpV a b ≤ 0)
  | [], s, h => ⟨by simp, h⟩
  | x :: l, s, h => by
    obtain ⟨h1, h2⟩ := sortV_fold l (insV x s) (insV_sorted x h)
    refine ⟨h1.trans ?_, h2⟩
    exact ((insV_perm x s).append_right l).trans List.perm_middle.symm
theorem sortV_perm (l : List Vw) : (sortV l).Perm l := by
  have := (sortV_fold l [] (by simp)).1
  rwa [List.nil_append] at this
theorem sortV_sorted (l : List Vw) : (sortV l).Pairwise (fun a b => cmpV a b ≤ 0) := (sortV_fold l [] (by simp)).2

/- views of a diagram -/
structure IsVw (X : List Cr) (v : Vw) : Prop where
  piece : IsPiece X v.1
  code : v.2 = v.1.flatMap (chunk X v.1)
theorem IsVw.len {X : List Cr} {v : Vw} (h : IsVw X v) : v.2.length = 9 * v.1.length := by rw [h.code, flatMap_len (chunk_len X _)]
theorem Ok.see_vw {X : List Cr} (h : Ok X) {c : Nat} (hc : c < X.length) : IsVw X (see X c) := ⟨h.see_piece hc, h.see_code hc⟩
theorem Ok.views {X : List Cr} (h : Ok X) : (∀ v ∈ viewsL X, IsVw X v) ∧ (orderL X).Perm (List.range X.length) := by
  have hb : ∀ l ∈ piecesL X, ∃ c ∈ l, Kn.best X l = see X c := fun l hl => by
    obtain ⟨e, he, h1, _⟩ := best_is X (h.pieces_is l hl).ne
    exact ⟨e, he, h1⟩
  have hp := sortV_perm ((piecesL X).map (Kn.best X))
  refine ⟨fun v hv => ?_, ?_⟩
  · obtain ⟨l, hl, rfl⟩ := List.mem_map.1 (hp.mem_iff.1 hv)
    obtain ⟨c, hc, e⟩ := hb l hl
    rw [e]
    exact h.see_vw ((h.pieces_is l hl).con c hc).1
  · refine (List.Perm.flatMap_right _ hp).trans (.trans ?_ h.pieces_perm)
    have : ∀ L : List (List Nat), (∀ l ∈ L, l ∈ piecesL X) → ((L.map (Kn.best X)).flatMap (·.1)).Perm L.flatten := by
      intro L
      induction L with
      | nil => intro _; exact .refl _
      | cons l L ih =>
        intro hL
        rw [List.map_cons, List.flatMap_cons, List.flatten_cons]
        refine List.Perm.append ?_ (ih fun x hx => hL x (by simp [hx]))
        obtain ⟨c, hc, e⟩ := hb l (hL l (by simp))
        rw [e]
        exact (h.pieces_is l (hL l (by simp))).see_perm h hc
    exact this _ fun l hl => hl
/- codes in order are told by the codes -/
def cmpC (a b : List Int) : Int := if (a.length : Int) - b.length = 0 then cmpL a b else (a.length : Int) - b.length
theorem codes_eq {X Y : List Cr} {vs ws : List Vw} (hv : ∀ v ∈ vs, IsVw X v) (hw : ∀ v ∈ ws, IsVw Y v) (h1 : vs.Pairwise (fun a b => cmpV a b ≤ 0)) (h2 : ws.Pairwise (fun a b => cmpV a b ≤ 0)) (hp : (vs.map (·.2)).Perm (ws.map (·.2))) :
    vs.map (·.2) = ws.map (·.2) := by
  have key : ∀ {Z : List Cr} {us : List Vw}, (∀ v ∈ us, IsVw Z v) → us.Pairwise (fun a b => cmpV a b ≤ 0) → (us.map (·.2)).Pairwise (fun a b => cmpC a b ≤ 0) := by
    intro Z us hu hs
    rw [List.pairwise_map]
    refine List.Pairwise.imp_of_mem (fun {a b} ha hb hab => ?_) hs
    have l1 := (hu a ha).len
    have l2 := (hu b hb).len
    unfold cmpV at hab
    unfold cmpC
    split at hab <;> split <;> omega
  refine hp.eq_of_pairwise (le := fun a b => cmpC a b ≤ 0) (fun a b _ _ hab hba => ?_) (key hv h1) (key hw h2)
  unfold cmpC at hab hba
  have := cmpL_anti a b
  split at hab <;> split at hba
  · exact cmpL_zero.1 (by omega)
  all_goals omega

/- two lists of crossings in step have the same numbers -/
theorem Step.mono {X Y : List Cr} {Z Z' : List (Nat × Nat)} {d e : Nat} (h : Step X Y Z d e) (hs : ∀ p ∈ Z, p ∈ Z') : Step X Y Z' d e := ⟨h.plus, h.side, fun s h4 => hs _ (h.next s h4)⟩
theorem steps {X Y : List Cr} : ∀ {vs ws : List Vw}, (∀ v ∈ vs, IsVw X v) → (∀ v ∈ ws, IsVw Y v) → vs.map (·.2) = ws.map (·.2) →
    (vs.flatMap (·.1)).length = (ws.flatMap (·.1)).length ∧ ∀ p ∈ (vs.flatMap (·.1)).zip (ws.flatMap (·.1)), Step X Y ((vs.flatMap (·.1)).zip (ws.flatMap (·.1))) p.1 p.2
  | [], [], _, _, _ => ⟨rfl, fun p hp => by cases hp⟩
  | [], _ :: _, _, _, h => by simp at h
  | _ :: _, [], _, _, h => by simp at h
  | v :: vs, w :: ws, hv, hw, h => by
    rw [List.map_cons, List.map_cons, List.cons.injEq] at h
    obtain ⟨i1, i2⟩ := steps (fun x hx => hv x (by simp [hx])) (fun x hx => hw x (by simp [hx])) h.2
    have h1 := hv v (by simp)
    have h2 := hw w (by simp)
    obtain ⟨j1, j2⟩ := step_of_codes h1.piece h2.piece (by rw [← h1.code, ← h2.code, h.1])
    rw [List.flatMap_cons, List.flatMap_cons, List.zip_append j1]
    refine ⟨by rw [List.length_append, List.length_append, i1, j1], fun p hp => ?_⟩
    rcases List.mem_append.1 hp with hp | hp
    · exact (j2 p hp).mono fun q hq => List.mem_append.2 (.inl hq)
    · exact (i2 p hp).mono fun q hq => List.mem_append.2 (.inr hq)
theorem zip_fun {l m : List Nat} (hl : l.Nodup) {d e e' : Nat} (h : (d, e) ∈ l.zip m) (h' : (d, e') ∈ l.zip m) : e = e' := by
  obtain ⟨i, hi, e1⟩ := List.getElem_of_mem h
  obtain ⟨j, hj, e2⟩ := List.getElem_of_mem h'
  rw [List.length_zip] at hi hj
  rw [List.getElem_zip, Prod.mk.injEq] at e1 e2
  have : i = j := (List.getElem_inj hl).1 (e1.1.trans e2.1.symm)
  subst this
  exact e1.2.symm.trans e2.2
theorem zip_swap {l m : List Nat} {d e : Nat} (h : (d, e) ∈ l.zip m) : (e, d) ∈ m.zip l := by
  obtain ⟨i, hi, e1⟩ := List.getElem_of_mem h
  rw [List.length_zip] at hi
  rw [List.getElem_zip, Prod.mk.injEq] at e1
  have h3 : i < (m.zip l).length := by rw [List.length_zip]; omega
  have : (m.zip l)[i] = (e, d) := by rw [List.getElem_zip, e1.1, e1.2]
  exact this ▸ List.getElem_mem h3
theorem mem_zip_arcs {X Y : List Cr} {a b : Nat} : ∀ {l m : List Nat}, l.length = m.length → (a, b) ∈ (l.flatMap (arcsOf X)).zip (m.flatMap (arcsOf Y)) → ∃ d e s, (d, e) ∈ l.zip m ∧ s < 4 ∧ a = arcN X (d, s) ∧ b = arcN Y (e, s)
  | [], [], _, h => by cases h
  | [], _ :: _, h, _ => by simp at h
  | _ :: _, [], h, _ => by simp at h
  | d :: l, e :: m, hl, h => by
    rw [List.flatMap_cons, List.flatMap_cons, List.zip_append (by rfl)] at h
    rcases List.mem_append.1 h with h | h
    · unfold arcsOf at h
      simp only [List.zip_cons_cons, List.zip_nil_right, List.mem_cons, List.not_mem_nil, or_false, Prod.mk.injEq] at h
      rcases h with ⟨h1, h2⟩ | ⟨h1, h2⟩ | ⟨h1, h2⟩ | ⟨h1, h2⟩
      · exact ⟨d, e, 0, by simp, by omega, h1, h2⟩
      · exact ⟨d, e, 1, by simp, by omega, h1, h2⟩
      · exact ⟨d, e, 2, by simp, by omega, h1, h2⟩
      · exact ⟨d, e, 3, by simp, by omega, h1, h2⟩
    · obtain ⟨d', e', s, h1, h2, h3, h4⟩ := mem_zip_arcs (by simpa using hl) h
      exact ⟨d', e', s, by simp [h1], h2, h3, h4⟩
theorem arcs_zip {X Y : List Cr} {d e s : Nat} (hs : s < 4) : ∀ {l m : List Nat}, l.length = m.length → (d, e) ∈ l.zip m → (arcN X (d, s), arcN Y (e, s)) ∈ (l.flatMap (arcsOf X)).zip (m.flatMap (arcsOf Y))
  | [], [], _, h => by cases h
  | [], _ :: _, h, _ => by simp at h
  | _ :: _, [], h, _ => by simp at h
  | c :: l, k :: m, hl, h => by
    rw [List.flatMap_cons, List.flatMap_cons, List.zip_append (by rfl), List.mem_append]
    rw [List.zip_cons_cons, List.mem_cons, Prod.mk.injEq] at h
    rcases h with ⟨rfl, rfl⟩ | h
    · left
      unfold arcsOf
      match s, hs with
      | 0, _ => simp
      | 1, _ => simp
      | 2, _ => simp
      | 3, _ => simp
    · exact .inr (arcs_zip hs (by simpa using hl) h)
/- one arc stands at one place, or at the two ends of it -/
theorem Ok.arc_eq {X : List Cr} (h : Ok X) {p q : Pl} (hp : isPl X p) (hq : isPl X q) : arcN X p = arcN X q ↔ q = p ∨ q = Kn.other X p := by
  constructor
  · intro e
    have e' : Kn.at_ X p = Kn.at_ X q := by rw [← h.arcN_eq hp, ← h.arcN_eq hq, e]
    by_cases c : Kn.cm X p = Kn.cm X q
    · exact .inl (h.uniq _ _ hp hq c e').symm
    · right
      refine h.uniq _ _ hq (h.isPl_other hp) ?_ ?_
      · rw [h.cm_other hp]; revert c; cases Kn.cm X p <;> cases Kn.cm X q <;> simp
      · rw [← h.arcN_eq (h.isPl_other hp), h.arc_other hp, h.arcN_eq hp, e']
  · rintro (rfl | rfl)
    · rfl
    · exact (h.arc_other hp).symm
theorem pat_half {X Y : List Cr} (hX : Ok X) (hY : Ok Y) {l m : List Nat} (hl : l.Nodup) (hlt : ∀ x ∈ l, x < X.length) (hmt : ∀ x ∈ m, x < Y.length) (hz : ∀ p ∈ l.zip m, Step X Y (l.zip m) p.1 p.2)
    {d e d' e' s s' : Nat} (h : (d, e) ∈ l.zip m) (h' : (d', e') ∈ l.zip m) (hs : s < 4) (hs' : s' < 4) (k : arcN X (d, s) = arcN X (d', s')) : arcN Y (e, s) = arcN Y (e', s') := by
  have hp : isPl X (d, s) := ⟨hlt _ (zip_fst h), hs⟩
  have hq : isPl X (d', s') := ⟨hlt _ (zip_fst h'), hs'⟩
  have hp' : isPl Y (e, s) := ⟨hmt _ (zip_snd h), hs⟩
  rcases (hX.arc_eq hp hq).1 k with e1 | e1
  · injection e1 with e1 e2
    subst e1 e2
    rw [zip_fun hl h h']
  · have h1 := hz _ h
    have hn := h1.next s hs
    have hsd := h1.side s hs
    simp only at hn hsd
    rw [← e1] at hn hsd
    simp only at hn hsd
    have e2 := zip_fun hl h' hn
    have e3 : ((e', s') : Pl) = Kn.other Y (e, s) := by rw [e2, hsd]
    rw [e3, hY.arc_other hp']
theorem Step.swap {X Y : List Cr} {l m : List Nat} {d e : Nat} (h : Step X Y (l.zip m) d e) : Step Y X (m.zip l) e d := ⟨h.plus.symm, fun s hs => (h.side s hs).symm, fun s hs => zip_swap (h.next s hs)⟩
theorem numbered_eq {X Y : List Cr} (hX : Ok X) (hY : Ok Y) {l m : List Nat} (hl : l.Nodup) (hm : m.Nodup) (hlt : ∀ x ∈ l, x < X.length) (hmt : ∀ x ∈ m, x < Y.length) (hlen : l.length = m.length)
    (hz : ∀ p ∈ l.zip m, Step X Y (l.zip m) p.1 p.2) : numbered X l = numbered Y m := by
  have hpat : Pat ((l.flatMap (arcsOf X)).zip (m.flatMap (arcsOf Y))) := by
    refine ⟨?_⟩
    rintro ⟨a, b⟩ h1 ⟨a', b'⟩ h2
    obtain ⟨d, e, s, z1, hs, rfl, rfl⟩ := mem_zip_arcs hlen h1
    obtain ⟨d', e', s', z2, hs', rfl, rfl⟩ := mem_zip_arcs hlen h2
    refine ⟨pat_half hX hY hl hlt hmt hz z1 z2 hs hs', ?_⟩
    exact pat_half hY hX hm hmt hlt (fun p hp => (hz (p.2, p.1) (zip_swap hp)).swap) (zip_swap z1) (zip_swap z2) hs hs'
  have hfl : (l.flatMap (arcsOf X)).length = (m.flatMap (arcsOf Y)).length := by
    have : ∀ (Z : List Cr) (l : List Nat), (l.flatMap (arcsOf Z)).length = 4 * l.length := fun Z l => by
      induction l with
      | nil => rfl
      | cons x xs ih => rw [List.flatMap_cons, List.length_append, ih, List.length_cons]; simp [arcsOf]; omega
    rw [this, this, hlen]
  unfold numbered
  refine List.ext_getElem (by simp [hlen]) fun i h1 h2 => ?_
  rw [List.length_map] at h1 h2
  rw [List.getElem_map, List.getElem_map]
  have hzi : (l[i], m[i]) ∈ l.zip m := by
    have h3 : i < (l.zip m).length := by rw [List.length_zip]; omega
    have : (l.zip m)[i] = (l[i], m[i]) := by rw [List.getElem_zip]
    exact this ▸ List.getElem_mem h3
  have hst := hz _ hzi
  have ha : ∀ s, s < 4 → (firsts (l.flatMap (arcsOf X))).idxOf (arcN X (l[i], s)) = (firsts (m.flatMap (arcsOf Y))).idxOf (arcN Y (m[i], s)) := fun s hs => firsts_pair hfl hpat (arcs_zip hs hlen hzi)
  have a0 := ha 0 (by omega)
  have a1 := ha 1 (by omega)
  have a2 := ha 2 (by omega)
  have a3 := ha 3 (by omega)
  have hplus := hst.plus
  simp only at hplus
  unfold Cr.ren
  simp only
  unfold arcN Kn.at_ Cr.arc at a0 a1 a2 a3
  simp only [Nat.zero_ne_one, if_true, if_false, Nat.reduceEqDiff] at a0 a1 a2 a3
  rw [a0, a1, a2, a3, hplus]
theorem Iso.form {X Y : List Cr} {f t : Nat → Nat} (h : Iso X Y f t) (hX : Ok X) : formL X = formL Y := by
  have hY := h.ok hX
  obtain ⟨v1, p1⟩ := hX.views
  obtain ⟨v2, p2⟩ := hY.views
  have hc : (viewsL X).map (·.2) = (viewsL Y).map (·.2) := by
    refine codes_eq v1 v2 (sortV_sorted _) (sortV_sorted _) ?_
    refine ((sortV_perm _).map _).trans (.trans ?_ ((sortV_perm _).map _).symm)
    rw [List.map_map, List.map_map]
    exact (h.codes hX).symm
  obtain ⟨s1, s2⟩ := steps v1 v2 hc
  exact numbered_eq hX hY (p1.nodup_iff.2 List.nodup_range) (p2.nodup_iff.2 List.nodup_range) (fun x hx => List.mem_range.1 (p1.mem_iff.1 hx)) (fun x hx => List.mem_range.1 (p2.mem_iff.1 hx)) s1 s2
/- what is numbered anew is the diagram but for the numbers -/
theorem Ok.numbered {X : List Cr} (h : Ok X) {os : List Nat} (hp : os.Perm (List.range X.length)) : Iso X (numbered X os) (fun i => os.getD i 0) (fun a => (firsts (os.flatMap (arcsOf X))).idxOf a + 1) := by
  have hlen : os.length = X.length := by rw [hp.length_eq, List.length_range]
  have hnd : os.Nodup := hp.nodup_iff.2 List.nodup_range
  have hget : ∀ i (hi : i < os.length), os.getD i 0 = os[i] := fun i hi => by rw [List.getD_eq_getElem?_getD, List.getElem?_eq_getElem hi]; rfl
  have hmem : ∀ {a}, a ∈ os.flatMap (arcsOf X) ↔ Kn.isArc X a := fun {a} => by
    rw [List.mem_flatMap]
    constructor
    · rintro ⟨c, hc, ha⟩
      have hcl := List.mem_range.1 (hp.mem_iff.1 hc)
      unfold arcsOf at ha
      simp only [List.mem_cons, List.not_mem_nil, or_false] at ha
      rcases ha with rfl | rfl | rfl | rfl
      · exact h.isArc ⟨hcl, by simp⟩
      · exact h.isArc ⟨hcl, by simp⟩
      · exact h.isArc ⟨hcl, by simp⟩
      · exact h.isArc ⟨hcl, by simp⟩
    · intro ha
      have hq := h.isPl_end (io := true) ha
      refine ⟨(endP X true a).1, hp.mem_iff.2 (List.mem_range.2 hq.1), ?_⟩
      have e := h.arc_end (io := true) ha
      unfold arcsOf
      obtain ⟨c, s, hcs⟩ : ∃ c s, endP X true a = (c, s) := ⟨_, _, rfl⟩
      rw [hcs] at hq e ⊢
      have hs := hq.2
      simp only at hs ⊢
      match s, hs with
      | 0, _ => rw [← e]; simp
      | 1, _ => rw [← e]; simp
      | 2, _ => rw [← e]; simp
      | 3, _ => rw [← e]; simp
  have hperm : (firsts (os.flatMap (arcsOf X))).Perm (arcs X) := (List.perm_ext_iff_of_nodup (firsts_nodup _) (arcs_nodup X)).2 fun a => by rw [mem_firsts, hmem, mem_arcs]
  have hfl : (firsts (os.flatMap (arcsOf X))).length = nArcs X := by rw [hperm.length_eq, arcs_length]
  refine ⟨by unfold Kn.numbered; rw [List.length_map, hlen], fun i hi => ?_, fun i j hi hj e => ?_, fun i hi => ?_, fun a ha => ?_, fun a b ha hb e => ?_⟩
  · exact List.mem_range.1 (hp.mem_iff.1 (getD_mem (by omega)))
  · rw [hget i (by omega), hget j (by omega)] at e
    exact (List.getElem_inj hnd).1 e
  · rw [hget i (by omega)]
    unfold Kn.numbered cr
    rw [List.getD_eq_getElem?_getD, List.getElem?_map, List.getElem?_eq_getElem (by omega)]
    rfl
  · have := List.idxOf_lt_length_of_mem (mem_firsts.2 (hmem.2 ha))
    unfold Kn.isArc; omega
  · have h1 := List.idxOf_lt_length_of_mem (mem_firsts.2 (hmem.2 ha))
    have h2 := List.idxOf_lt_length_of_mem (mem_firsts.2 (hmem.2 hb))
    have e1 := List.getElem_idxOf h1
    have e2 := List.getElem_idxOf h2
    simp only [Nat.add_right_cancel_iff] at e
    rw [← e1, ← e2]
    congr 1
theorem Ok.form_iso {X : List Cr} (h : Ok X) : ∃ f t, Iso X (formL X) f t := ⟨_, _, h.numbered h.views.2⟩
theorem Ok.form_ok {X : List Cr} (h : Ok X) : Ok (formL X) := by
  obtain ⟨f, t, hi⟩ := h.form_iso
  exact hi.ok h
theorem Ok.form_len {X : List Cr} (h : Ok X) : (formL X).length = X.length := by
  obtain ⟨f, t, hi⟩ := h.form_iso
  exact hi.len
theorem Ok.form_form {X : List Cr} (h : Ok X) : formL (formL X) = formL X := by
  obtain ⟨f, t, hi⟩ := h.form_iso
  exact (hi.form h).symm
end Go.Proofs.Ytgjmjbgicfkojaa.Kn
