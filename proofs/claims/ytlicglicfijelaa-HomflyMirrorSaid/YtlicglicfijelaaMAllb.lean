/- Plain mathematics of diagrams, joined. -/
import Derived.Test.YtlicglicfijelaaMAlla
/- Of each piece: no more than two more faces than crossings; so a diagram is planar just if it is so in sum: plain mathematics. -/
namespace Go.Proofs.Ytlicglicfijelaa.Kn

theorem cl_congr_lt {N : Nat} {R R' : Nat → Nat → Prop} (h : ∀ x y, x < N → y < N → (R x y ↔ R' x y)) : cl N R = cl N R' := by
  unfold cl
  refine countP_congr' fun d hd => tr_congr ?_
  rw [List.mem_range] at hd
  exact forall_congr' fun e => imp_congr_right fun he => not_congr (h e d (by omega) hd)
/- classes, and numbers each of which is one by itself -/
theorem cl_some {N : Nat} {R : Nat → Nat → Prop} (hR : Equivalence R) (p : Nat → Bool) {ll : List (List Nat)} (hp : ll.flatten.Perm ((List.range N).filter p)) (hne : ∀ l ∈ ll, l ≠ []) (hc : ∀ l ∈ ll, ∀ x ∈ l, ∀ y, y ∈ l ↔ R x y) (hs : ∀ x, p x = false → ∀ y, R x y → y = x) :
    cl N R = ll.length + ((List.range N).filter fun x => !p x).length := by
  have h1 : (((List.range N).filter fun x => !p x).map fun x => [x]).flatten = (List.range N).filter fun x => !p x := by
    generalize (List.range N).filter (fun x => !p x) = l
    induction l with
    | nil => rfl
    | cons a l ih => rw [List.map_cons, List.flatten_cons, ih]; rfl
  have := cl_lists hR (N := N) (ll := ll ++ ((List.range N).filter fun x => !p x).map fun x => [x]) (by
      rw [List.flatten_append, h1]
      exact (hp.append_right _).trans (List.filter_append_perm p _))
    (fun l hl => by
      rcases List.mem_append.1 hl with hl | hl
      · exact hne l hl
      · obtain ⟨x, _, rfl⟩ := List.mem_map.1 hl; simp)
    (fun l hl x hx y => by
      rcases List.mem_append.1 hl with hl | hl
      · exact hc l hl x hx y
      · obtain ⟨z, hz, rfl⟩ := List.mem_map.1 hl
        rw [List.mem_singleton] at hx ⊢
        subst hx
        have hp := (List.mem_filter.1 hz).2
        rw [Bool.not_eq_true'] at hp
        exact ⟨fun e => e ▸ hR.refl _, fun h => hs _ hp y h⟩)
  rw [this, List.length_append, List.length_map]
section
variable {X : List Cr} {l : List Nat}
/- a piece alone -/
def inL (l : List Nat) (x : Nat) : Bool := l.contains (x / 4)
theorem inL_iff {x : Nat} : inL l x = true ↔ x / 4 ∈ l := by unfold inL; simp
def sigL (X : List Cr) (l : List Nat) (x : Nat) : Nat := if inL l x then sig X.length x else x
def ensL (X : List Cr) (l : List Nat) : Prs := (ens X).filter fun e => inL l e.1
theorem sig_div {n x : Nat} : sig n x / 4 = x / 4 := by unfold sig; split <;> omega
theorem sigL_pm (X : List Cr) (l : List Nat) : Pm (4 * X.length) (sigL X l) := by
  have h := sig_pm X.length
  refine ⟨fun x hx => ?_, fun x hx => ?_, fun x y e => ?_⟩
  · unfold sigL; split
    · exact h.lt x hx
    · exact hx
  · unfold sigL; split
    · exact h.out x hx
    · rfl
  · have hd : ∀ x, sigL X l x / 4 = x / 4 := fun x => by unfold sigL; split; exact sig_div; rfl
    have e4 : x / 4 = y / 4 := by rw [← hd x, e, hd]
    unfold sigL inL at e
    rw [e4] at e
    split at e
    · exact h.inj x y e
    · exact e
theorem ensL_sub : ∀ e ∈ ensL X l, e ∈ ens X := fun _ he => (List.mem_filter.1 he).1
theorem Ok.ensL_good (h : Ok X) : Good (4 * X.length) (ensL X l) := fun e he => h.ens_good e (ensL_sub e he)
theorem Ok.ensL_dis (h : Ok X) : Dis (ensL X l) := by
  have := h.ens_dis
  unfold Dis at this ⊢
  exact this.sublist List.filter_sublist
theorem IsPiece.other (h : IsPiece X l) {p : Pl} (hp : isPl X p) (hX : Ok X) : p.1 ∈ l ↔ (other X p).1 ∈ l := by
  have step : ∀ {q : Pl}, isPl X q → q.1 ∈ l → (Kn.other X q).1 ∈ l := fun {q} hq hl => by
    refine ((h.con _ hl).2 _).2 (.step (.refl _) ?_)
    unfold nbc
    rw [if_pos hq.1]
    exact mem_nbs.2 ⟨q.2, hq.2, rfl⟩
  refine ⟨step hp, fun k => ?_⟩
  have := step (hX.isPl_other hp) k
  rwa [hX.other_other hp] at this
theorem pk_div {p : Pl} (hp : p.2 < 4) : pk p / 4 = p.1 := by unfold pk; omega
theorem Ok.ens_piece (hX : Ok X) (h : IsPiece X l) {e : Nat × Nat} (he : e ∈ ens X) : inL l e.1 = inL l e.2 := by
  obtain ⟨a, ha, rfl⟩ := List.mem_map.1 he
  have ha := mem_arcs.1 ha
  have p1 := hX.isPl_end (io := true) ha
  have p2 := hX.isPl_end (io := false) ha
  rw [Bool.eq_iff_iff, inL_iff, inL_iff, pk_div p1.2, pk_div p2.2, h.other p1 hX]
  have : Kn.other X (endP X true a) = endP X false a := by
    unfold Kn.other
    rw [hX.cm_end ha, hX.arc_end ha]; rfl
  rw [this]
theorem Ok.mateL (hX : Ok X) (h : IsPiece X l) {x : Nat} : mate (ensL X l) x = if inL l x then mate (ens X) x else x := by
  by_cases c : inPrs (ens X) x
  · obtain ⟨e, he, k⟩ := c
    have hl : inL l x = inL l e.1 := by
      rcases k with rfl | rfl
      · rfl
      · exact (hX.ens_piece h he).symm
    by_cases d : inL l e.1 = true
    · rw [hl, if_pos d]
      have hm : e ∈ ensL X l := List.mem_filter.2 ⟨he, d⟩
      have m1 := mate_pair hX.ens_dis he
      have m2 := mate_pair hX.ensL_dis hm
      rcases k with rfl | rfl
      · rw [m1.1, m2.1]
      · rw [m1.2, m2.2]
    · rw [hl, if_neg d]
      refine mate_out fun ⟨e', he', k'⟩ => ?_
      have hd := (List.mem_filter.1 he').2
      have hl' : inL l x = inL l e'.1 := by
        rcases k' with rfl | rfl
        · rfl
        · exact (hX.ens_piece h (ensL_sub _ he')).symm
      rw [← hl', hl] at hd
      exact d hd
  · rw [mate_out c, ite_self]
    exact mate_out fun ⟨e, he, k⟩ => c ⟨e, ensL_sub e he, k⟩
theorem Ok.phiL (hX : Ok X) (h : IsPiece X l) (x : Nat) : phi (sigL X l) (ensL X l) x = if inL l x then fac X x else x := by
  unfold phi
  rw [hX.mateL h]
  have hi : inL l (sigL X l x) = inL l x := by
    unfold inL sigL
    split
    · rw [sig_div]
    · rfl
  rw [hi]
  unfold sigL
  by_cases c : inL l x = true
  · rw [if_pos c, if_pos c, if_pos c]; rfl
  · rw [if_neg c, if_neg c, if_neg c]
/- orbits of what is as it was but for some -/
theorem orb_if {f g : Nat → Nat} {p : Nat → Bool} (hg : ∀ x, g x = if p x then f x else x) (hp : ∀ x, p x = true → p (f x) = true) {x : Nat} (hx : p x = true) {y : Nat} : Orb g x y ↔ Orb f x y := by
  have key : ∀ n, it g n x = it f n x ∧ p (it f n x) = true := by
    intro n
    induction n with
    | zero => exact ⟨rfl, hx⟩
    | succ n ih =>
      refine ⟨?_, hp _ ih.2⟩
      rw [it, ih.1, hg, if_pos ih.2]; rfl
  constructor
  · rintro ⟨n, rfl⟩; exact ⟨n, (key n).1.symm⟩
  · rintro ⟨n, rfl⟩; exact ⟨n, (key n).1⟩
theorem orb_not {f g : Nat → Nat} {p : Nat → Bool} (hg : ∀ x, g x = if p x then f x else x) {x : Nat} (hx : p x = false) {y : Nat} (h : Orb g x y) : y = x :=
  h.ind (P := fun y => y = x) (fun z hz => by rw [hz, hg, hx]; rfl) rfl
theorem blks_perm (h : IsPiece X l) : (l.flatMap blk).Perm ((List.range (4 * X.length)).filter (inL l)) := by
  have hn : (l.flatMap blk).Nodup := by
    rw [List.Nodup, List.pairwise_flatMap]
    refine ⟨fun c _ => by unfold blk; simp, h.nodup.imp fun {a b} hne x hx y hy e => ?_⟩
    subst e
    exact hne ((mem_blk.1 hx).symm.trans (mem_blk.1 hy))
  refine (List.perm_ext_iff_of_nodup hn (List.nodup_range.sublist List.filter_sublist)).2 fun x => ?_
  rw [mem_blks, List.mem_filter, inL_iff, List.mem_range]
  exact ⟨fun k => ⟨by have := (h.con _ k).1; omega, k⟩, fun k => k.2⟩
/- the faces at a piece -/
def facesIn (X : List Cr) (l : List Nat) : List (List Dt) := (facesL X).filter fun f => l.contains (head X (f.headD (0, false))).1
theorem Ok.fac_piece (hX : Ok X) (h : IsPiece X l) {x : Nat} (hx : inL l x = true) : inL l (fac X x) = true := by
  rw [inL_iff] at hx ⊢
  have hl := (h.con _ hx).1
  have e : x = pk (pl x) := by unfold pk pl; simp only; omega
  have hp : isPl X (pl x) := isPl_pl (by omega)
  rw [e, hX.fac_pk hp, pk_div (hX.isPl_other (isPl_turn hp 3)).2]
  exact (h.other (isPl_turn hp 3) hX).1 (by show (pl x).1 ∈ l; unfold pl; exact hx)
theorem flatten_filter {α : Type} (q : List α → Bool) (p : α → Bool) : ∀ L : List (List α), (∀ r ∈ L, ∀ x ∈ r, p x = q r) → (L.filter q).flatten = L.flatten.filter p
  | [], _ => rfl
  | r :: L, h => by
    have ih := flatten_filter q p L fun r hr => h r (by simp [hr])
    rw [List.filter_cons, List.flatten_cons, List.filter_append]
    by_cases c : q r = true
    · have e : r.filter p = r := List.filter_eq_self.2 fun x hx => by rw [h r (by simp) x hx, c]
      rw [if_pos c, List.flatten_cons, ih, e]
    · have e : r.filter p = [] := List.filter_eq_nil_iff.2 fun x hx => by rw [h r (by simp) x hx]; exact c
      rw [if_neg c, ih, e]; rfl
/- Euler, of a piece -/
theorem Ok.euler_piece (hX : Ok X) (h : IsPiece X l) : (facesIn X l).length ≤ l.length + 2 := by
  have hE := (Kn.euler (sigL_pm X l) (hX.ensL_good (l := l))).1
  obtain ⟨K, hK⟩ : ∃ K, K = ((List.range (4 * X.length)).filter fun x => !inL l x).length := ⟨_, rfl⟩
  have hperm := blks_perm h
  have hlen : (l.flatMap blk).length = 4 * l.length := by
    have : ∀ l : List Nat, (l.flatMap blk).length = 4 * l.length := fun l => by
      induction l with
      | nil => rfl
      | cons a l ih => rw [List.flatMap_cons, List.length_append, ih, List.length_cons]; unfold blk; simp; omega
    exact this l
  -- crossings
  have hV : cl (4 * X.length) (Orb (sigL X l)) = l.length + K := by
    rw [hK]
    have := cl_some (sigL_pm X l).equiv (inL l) (ll := l.map blk) (by rw [← List.flatMap_def]; exact hperm) (fun b hb => by
        obtain ⟨c, _, rfl⟩ := List.mem_map.1 hb; unfold blk; simp)
      (fun b hb x hx y => by
        obtain ⟨c, hc, rfl⟩ := List.mem_map.1 hb
        have hcl := (h.con c hc).1
        rw [mem_blk] at hx ⊢
        have hin : inL l x = true := inL_iff.2 (by rw [hx]; exact hc)
        rw [orb_if (f := sig X.length) (g := sigL X l) (p := inL l) (fun x => rfl) (fun x hx => by unfold inL at hx ⊢; rwa [sig_div]) hin, sig_orb (by omega)]
        omega)
      (fun x hx y hy => orb_not (f := sig X.length) (g := sigL X l) (p := inL l) (fun x => rfl) hx hy)
    rw [this, List.length_map]
  -- faces
  have hF : cl (4 * X.length) (Orb (phi (sigL X l) (ensL X l))) = (facesIn X l).length + K := by
    rw [hK]
    have hal : ∀ f ∈ facesL X, ∀ d ∈ f, inL l (pk (head X d)) = l.contains (head X (f.headD (0, false))).1 := fun f hf d hd => by
      obtain ⟨d0, r, rfl⟩ : ∃ d r, f = d :: r := by
        cases f with
        | nil => exact absurd rfl (faces_ne X _ hf)
        | cons d r => exact ⟨d, r, rfl⟩
      have key : ∀ {d e : Dt}, d ∈ d0 :: r → e ∈ d0 :: r → inL l (pk (head X d)) = true → inL l (pk (head X e)) = true := fun {d e} hd he k => by
        have := (hX.faces_is _ (List.mem_map.2 ⟨_, hf, rfl⟩) (pk (head X d)) (List.mem_map.2 ⟨d, hd, rfl⟩) (pk (head X e))).1 (List.mem_map.2 ⟨e, he, rfl⟩)
        exact this.ind (P := fun y => inL l y = true) (fun z hz => hX.fac_piece h hz) k
      have ha : Kn.isArc X d0.1 := mem_darts.1 ((faces_perm hX).mem_iff.1 (List.mem_flatten.2 ⟨_, hf, by simp⟩))
      have e0 : inL l (pk (head X d0)) = l.contains (head X d0).1 := by unfold inL; rw [pk_div (hX.isPl_head ha).2]
      show _ = l.contains (head X d0).1
      rw [← e0, Bool.eq_iff_iff]
      exact ⟨key hd (by simp), key (by simp) hd⟩
    have := cl_some (phi_pm (sigL_pm X l) (hX.ensL_good (l := l))).equiv (inL l) (ll := (facesIn X l).map (List.map fun d => pk (head X d))) (by
        have e : ((facesIn X l).map (List.map fun d => pk (head X d))).flatten = ((facesL X).map (List.map fun d => pk (head X d))).flatten.filter (inL l) := by
          rw [← List.map_flatten, ← List.map_flatten, List.filter_map]
          congr 1
          exact flatten_filter _ _ _ fun f hf d hd => hal f hf d hd
        rw [e]
        exact hX.faces_flat.filter _)
      (fun b hb => by
        obtain ⟨f, hf, rfl⟩ := List.mem_map.1 hb
        have := faces_ne X f (List.mem_filter.1 hf).1
        simpa using this)
      (fun b hb x hx y => by
        obtain ⟨f, hf, rfl⟩ := List.mem_map.1 hb
        obtain ⟨hf1, hf2⟩ := List.mem_filter.1 hf
        rw [hX.faces_is _ (List.mem_map.2 ⟨f, hf1, rfl⟩) x hx]
        obtain ⟨d, hd, rfl⟩ := List.mem_map.1 hx
        exact (orb_if (hX.phiL h) (fun x hx => hX.fac_piece h hx) (by rw [hal f hf1 d hd]; exact hf2)).symm)
      (fun x hx y hy => orb_not (hX.phiL h) hx hy)
    rw [this, List.length_map]
  -- the piece
  have hC : cl (4 * X.length) (com (sigL X l) (ensL X l)) = 1 + K := by
    rw [hK]
    have heq := com_equiv (sigL_pm X l) (ensL X l)
    have := cl_some heq (inL l) (ll := [l.flatMap blk]) (by simpa using hperm)
      (fun b hb => by
        rw [List.mem_singleton] at hb; subst hb
        obtain ⟨c, hc⟩ := List.exists_mem_of_ne_nil _ h.ne
        have : c * 4 ∈ l.flatMap blk := mem_blks.2 (by rw [show c * 4 / 4 = c by omega]; exact hc)
        exact List.ne_nil_of_mem this)
      (fun b hb x hx y => by
        rw [List.mem_singleton] at hb; subst hb
        rw [mem_blks] at hx ⊢
        constructor
        · intro hy
          -- connected within the piece
          have hxl : x < 4 * X.length := by have := (h.con _ hx).1; omega
          have hcon : pie X x y := (hX.pie_con hxl).2 (((h.con _ hx).2 _).1 hy)
          have := com_least (R := fun x y => (x / 4 ∈ l ↔ y / 4 ∈ l) ∧ (x / 4 ∈ l → com (sigL X l) (ensL X l) x y)) (σ := sig X.length) (es := ens X)
            ⟨fun x => ⟨Iff.rfl, fun _ => heq.refl x⟩, fun {x y} k => ⟨k.1.symm, fun m => heq.symm (k.2 (k.1.2 m))⟩, fun {x y z} k m => ⟨k.1.trans m.1, fun a => heq.trans (k.2 a) (m.2 (k.1.1 a))⟩⟩
            (fun x => ⟨by rw [sig_div], fun m => com_sub (by
              have : sigL X l x = sig X.length x := by unfold sigL; rw [if_pos (inL_iff.2 m)]
              rw [← this]; exact Orb.one _ x)⟩)
            (fun e he => ⟨by rw [← inL_iff, ← inL_iff, hX.ens_piece h he], fun m => com_pair (sigL_pm X l) (List.mem_filter.2 ⟨he, inL_iff.2 m⟩)⟩) hcon
          exact this.2 hx
        · intro k
          have := com_least (R := fun x y => x / 4 ∈ l ↔ y / 4 ∈ l) (σ := sigL X l) (es := ensL X l) ⟨fun x => Iff.rfl, fun k => k.symm, fun k m => k.trans m⟩
            (fun x => by unfold sigL; split; rw [sig_div]; rfl) (fun e he => by rw [← inL_iff, ← inL_iff, hX.ens_piece h (ensL_sub e he)]) k
          exact this.1 hx)
      (fun x hx y hy => by
        have := com_least (R := fun x y => x = y ∨ (inL l x = true ∧ inL l y = true)) (σ := sigL X l) (es := ensL X l)
          ⟨fun x => .inl rfl, fun {x y} k => by rcases k with rfl | ⟨a, b⟩; exact .inl rfl; exact .inr ⟨b, a⟩, fun {x y z} k m => by
            rcases k with rfl | ⟨a, b⟩
            · exact m
            · rcases m with rfl | ⟨c, d⟩
              · exact .inr ⟨a, b⟩
              · exact .inr ⟨a, d⟩⟩
          (fun x => by
            by_cases c : inL l x = true
            · refine .inr ⟨c, ?_⟩
              unfold sigL; rw [if_pos c]; unfold inL at c ⊢; rwa [sig_div]
            · left; unfold sigL; rw [if_neg c])
          (fun e he => .inr ⟨(List.mem_filter.1 he).2, by rw [← hX.ens_piece h (ensL_sub e he)]; exact (List.mem_filter.1 he).2⟩) hy
        rcases this with e | ⟨a, _⟩
        · exact e.symm
        · rw [hx] at a; cases a)
    rw [this]; simp
  -- arcs
  have hA : 2 * (ensL X l).length = 4 * l.length := by
    rw [← hlen]
    have e : ∀ es : Prs, (es.flatMap fun e => [e.1, e.2]).length = 2 * es.length := fun es => by
      induction es with
      | nil => rfl
      | cons e es ih => rw [List.flatMap_cons, List.length_append, ih, List.length_cons]; simp; omega
    rw [← e]
    refine List.Perm.length_eq ((List.perm_ext_iff_of_nodup ?_ (hperm.nodup_iff.2 (List.nodup_range.sublist List.filter_sublist))).2 fun x => ?_)
    · rw [List.Nodup, List.pairwise_flatMap]
      refine ⟨fun e he => by
        have := (hX.ensL_good e he).2.2
        simp [this], (hX.ensL_dis (l := l)).imp fun {a b} k x hx y hy => ?_⟩
      simp only [List.mem_cons, List.not_mem_nil, or_false] at hx hy
      rcases hx with rfl | rfl <;> rcases hy with rfl | rfl
      · exact k.1
      · exact k.2.1
      · exact k.2.2.1
      · exact k.2.2.2
    · rw [mem_blks, List.mem_flatMap]
      constructor
      · rintro ⟨e, he, hx⟩
        have h1 := (List.mem_filter.1 he).2
        simp only [List.mem_cons, List.not_mem_nil, or_false] at hx
        rcases hx with rfl | rfl
        · exact inL_iff.1 h1
        · rw [hX.ens_piece h (ensL_sub e he)] at h1
          exact inL_iff.1 h1
      · intro hx
        have hxl := (h.con _ hx).1
        have e0 : x = pk (pl x) := by unfold pk pl; simp only; omega
        obtain ⟨e, he, k⟩ := hX.mem_ens (isPl_pl (X := X) (j := x) (by omega))
        rw [← e0] at k
        have hk : x = e.1 ∨ x = e.2 := k.elim (fun k => .inl k.1) fun k => .inr k.1
        refine ⟨e, List.mem_filter.2 ⟨he, ?_⟩, by simpa using hk⟩
        rcases hk with hk | hk
        · rw [← hk]; exact inL_iff.2 hx
        · rw [hX.ens_piece h he, ← hk]; exact inL_iff.2 hx
  rw [hV, hF, hC] at hE
  omega
theorem Ok.facesAt_in (hX : Ok X) {i : Nat} (hi : i < (piecesL X).length) : facesAt X i = (facesIn X (piecesL X)[i]).length := by
  unfold facesAt facesIn
  rw [List.countP_eq_length_filter]
  congr 1
  refine List.filter_congr fun f hf => ?_
  have hc := hX.face_at hf
  obtain ⟨c, hcd⟩ : ∃ c, c = (head X (f.headD (0, false))).1 := ⟨_, rfl⟩
  rw [← hcd] at hc ⊢
  rw [Bool.eq_iff_iff, decide_eq_true_eq, List.contains_iff_mem]
  have hlt := hX.pieceAt_lt hc
  have hmem : c ∈ (piecesL X)[pieceAt X c] := by
    have hlt' : (piecesL X).findIdx (fun l => l.contains c) < (piecesL X).length := hlt
    have : ((piecesL X)[pieceAt X c]).contains c = true := List.findIdx_getElem (xs := piecesL X) (p := fun l => l.contains c) (w := hlt')
    exact List.contains_iff_mem.1 this
  constructor
  · intro e; subst e; exact hmem
  · intro k
    have hnd : (piecesL X).flatten.Nodup := hX.pieces_perm.nodup_iff.2 List.nodup_range
    have hp := List.pairwise_iff_getElem.1 (List.pairwise_flatten.1 hnd).2
    rcases Nat.lt_trichotomy (pieceAt X c) i with d | d | d
    · exact absurd rfl (hp _ _ hlt hi d c hmem c k)
    · exact d
    · exact absurd rfl (hp _ _ hi hlt d c k c hmem)
theorem sum_le_eq {f g : Nat → Nat} : ∀ {m : Nat}, (∀ i, i < m → f i ≤ g i) → ((List.range m).map f).sum = ((List.range m).map g).sum → ∀ i, i < m → f i = g i
  | 0, _, _, i, hi => by omega
  | m + 1, hle, hs, i, hi => by
    have hle' : ∀ k, k ≤ m → ((List.range k).map f).sum ≤ ((List.range k).map g).sum := fun k => by
      induction k with
      | zero => intro _; exact Nat.le_refl _
      | succ k ih =>
        intro hk
        have := ih (by omega)
        have := hle k (by omega)
        rw [List.range_succ, List.map_append, List.map_append, List.sum_append, List.sum_append]
        simp only [List.map_cons, List.map_nil, List.sum_cons, List.sum_nil]
        omega
    rw [List.range_succ, List.map_append, List.map_append, List.sum_append, List.sum_append] at hs
    simp only [List.map_cons, List.map_nil, List.sum_cons, List.sum_nil] at hs
    have h1 := hle' m (Nat.le_refl _)
    have h2 := hle m (by omega)
    by_cases c : i = m
    · subst c; omega
    · exact sum_le_eq (m := m) (fun i hi => hle i (by omega)) (by omega) i (by omega)
theorem Ok.planar_iff (hX : Ok X) : planarB X = true ↔ (facesL X).length = X.length + 2 * (piecesL X).length := by
  refine ⟨hX.planar_count, fun h => ?_⟩
  rw [← hX.faces_sum, ← hX.lens_sum] at h
  refine List.all_eq_true.2 fun i hi => ?_
  rw [List.mem_range] at hi
  rw [decide_eq_true_eq]
  refine sum_le_eq (g := fun i => ((piecesL X).getD i []).length + 2) (fun i hi => ?_) h i hi
  have e : (piecesL X).getD i [] = (piecesL X)[i] := by rw [List.getD_eq_getElem?_getD, List.getElem?_eq_getElem hi]; rfl
  show _ ≤ ((piecesL X).getD i []).length + 2
  rw [hX.facesAt_in hi, e]
  exact hX.euler_piece (hX.pieces_is _ (List.getElem_mem hi))
end
end Go.Proofs.Ytlicglicfijelaa.Kn

/- Where Euler's formula is an equality it stays one: an edge less, a vertex split, an edge drawn together, a vertex of two ends left out: plain mathematics. -/
namespace Go.Proofs.Ytlicglicfijelaa.Kn

def Flat (N : Nat) (σ : Nat → Nat) (es : Prs) : Prop := cl N (Orb (phi σ es)) + cl N (Orb σ) = es.length + 2 * cl N (com σ es)
section
variable {N : Nat} {σ : Nat → Nat}
theorem swp_inj1 {a b x y : Nat} (h : swp a b x = swp a b y) : x = y := by
  have := congrArg (swp a b) h
  rwa [swp_swp, swp_swp] at this
theorem mate_inj : ∀ {es : Prs} {x y : Nat}, mate es x = mate es y → x = y
  | [], _, _, h => h
  | _ :: _, _, _, h => mate_inj (swp_inj1 h)
theorem inj_swp {f : Nat → Nat} (hf : ∀ {x y}, f x = f y → x = y) (a b z : Nat) : f (swp a b z) = swp (f a) (f b) (f z) := by
  by_cases h : z = a
  · subst h; rw [swp_a, swp_a]
  · by_cases k : z = b
    · subst k; rw [swp_b, swp_b]
    · rw [swp_ne h k, swp_ne (fun e => h (hf e)) (fun e => k (hf e))]
theorem mate_swp (es : Prs) (a b z : Nat) : mate es (swp a b z) = swp (mate es a) (mate es b) (mate es z) := inj_swp mate_inj a b z
theorem com_mate (h : Pm N σ) (es : Prs) (x : Nat) : com σ es x (mate es x) := by
  have key : ∀ (l : Prs), (∀ e ∈ l, e ∈ es) → com σ es x (mate l x) := by
    intro l
    induction l with
    | nil => intro _; exact (com_equiv h es).refl x
    | cons e l ih =>
      intro hl
      have i := ih fun d hd => hl d (by simp [hd])
      have p := com_pair h (hl e (by simp))
      show com σ es x (swp e.1 e.2 (mate l x))
      by_cases c : mate l x = e.1
      · rw [c, swp_a]; rw [c] at i; exact (com_equiv h es).trans i p
      · by_cases d : mate l x = e.2
        · rw [d, swp_b]; rw [d] at i; exact (com_equiv h es).trans i ((com_equiv h es).symm p)
        · rw [swp_ne c d]; exact i
  exact key es fun _ he => he
theorem Good.mate_lt : ∀ {es : Prs}, Good N es → ∀ {x : Nat}, x < N → mate es x < N
  | [], _, _, hx => hx
  | e :: es, h, x, hx => by
    have i := h.tail.mate_lt hx
    obtain ⟨h1, h2, _⟩ := h e (by simp)
    show swp e.1 e.2 (mate es x) < N
    unfold swp; split
    · exact h2
    · split
      · exact h1
      · exact i

theorem Flat.drop (h : Pm N σ) {e : Nat × Nat} {es : Prs} (hg : Good N (e :: es)) (hf : Flat N σ (e :: es)) : Flat N σ es := by
  unfold Flat at hf ⊢
  obtain ⟨h1, h2, h3⟩ := hg e (by simp)
  have hE := (euler h hg.tail).1
  have hp := phi_pm h hg.tail
  rw [phi_cons, List.length_cons] at hf
  have hf : cl N (Orb fun x => swp e.1 e.2 (phi σ es x)) + cl N (Orb σ) = es.length + 1 + 2 * cl N (mrg (com σ es) e.1 e.2) := hf
  by_cases d : Orb (phi σ es) e.1 e.2
  · have := cl_part hp h1 h2 h3 d
    rw [cl_congr (mrg_same (com_equiv h es) (orb_com h hg.tail d))] at hf
    omega
  · have := cl_join hp h1 h2 d
    by_cases c : com σ es e.1 e.2
    · rw [cl_congr (mrg_same (com_equiv h es) c)] at hf; omega
    · have := cl_mrg (com_equiv h es) h1 h2 c
      omega
/- what is joined by a split vertex -/
theorem com_split (h : Pm N σ) {a b : Nat} (ha : a < N) (hb : b < N) (es : Prs) (k : Orb σ a b) (x y : Nat) : com σ es x y ↔ mrg (com (fun x => swp a b (σ x)) es) a b x y := by
  have h' := h.swp ha hb
  have hR := mrg_equiv (com_equiv h' es) a b
  have hab : mrg (com (fun x => swp a b (σ x)) es) a b a b := .inr (.inl ⟨(com_equiv h' es).refl _, (com_equiv h' es).refl _⟩)
  constructor
  · intro c
    refine com_least hR (fun z => ?_) (fun e he => .inl (com_pair h' he)) c
    have o : mrg (com (fun x => swp a b (σ x)) es) a b z (swp a b (σ z)) := .inl (com_sub (Orb.one (fun x => swp a b (σ x)) z))
    by_cases c : σ z = a
    · rw [c, swp_a] at o; rw [c]; exact hR.trans o (hR.symm hab)
    · by_cases d : σ z = b
      · rw [d, swp_b] at o; rw [d]; exact hR.trans o hab
      · rwa [swp_ne c d] at o
  · have hE := com_equiv h es
    have low : ∀ {x y}, com (fun x => swp a b (σ x)) es x y → com σ es x y := fun {x y} c => by
      refine com_least hE (fun z => ?_) (fun e he => com_pair h he) c
      have o : com σ es z (σ z) := com_sub (Orb.one σ z)
      have ab : com σ es a b := com_sub k
      show com σ es z (swp a b (σ z))
      by_cases c : σ z = a
      · rw [c, swp_a]; rw [c] at o; exact hE.trans o ab
      · by_cases d : σ z = b
        · rw [d, swp_b]; rw [d] at o; exact hE.trans o (hE.symm ab)
        · rwa [swp_ne c d]
    rintro (c | ⟨c, d⟩ | ⟨c, d⟩)
    · exact low c
    · exact hE.trans (low c) (hE.trans (com_sub k) (low d))
    · exact hE.trans (low c) (hE.trans (hE.symm (com_sub k)) (low d))
theorem Flat.split (h : Pm N σ) {es : Prs} (hg : Good N es) {a b : Nat} (ha : a < N) (hb : b < N) (hne : a ≠ b) (k : Orb σ a b) (hf : Flat N σ es) : Flat N (fun x => swp a b (σ x)) es := by
  unfold Flat at hf ⊢
  have h' := h.swp ha hb
  have hE := (euler h' hg).1
  have hp := phi_pm h hg
  have e : phi (fun x => swp a b (σ x)) es = fun x => swp (mate es a) (mate es b) (phi σ es x) := funext fun x => mate_swp es a b (σ x)
  have hc := cl_congr (N := N) (com_split h ha hb es k)
  have hV := cl_part h ha hb hne k
  have hma := hg.mate_lt ha
  have hmb := hg.mate_lt hb
  have hmn : mate es a ≠ mate es b := fun c => hne (mate_inj c)
  rw [e] at hE ⊢
  by_cases d : Orb (phi σ es) (mate es a) (mate es b)
  · have hF := cl_part hp hma hmb hmn d
    by_cases c : com (fun x => swp a b (σ x)) es a b
    · rw [cl_congr (mrg_same (com_equiv h' es) c)] at hc; omega
    · have := cl_mrg (com_equiv h' es) ha hb c
      omega
  · have hF := cl_join hp hma hmb d
    have j := orb_join (a := mate es a) (b := mate es b) hp d
    rw [← e] at j
    have j := orb_com h' hg j
    have hE' := com_equiv h' es
    have c : com (fun x => swp a b (σ x)) es a b := hE'.trans (com_mate h' es a) (hE'.trans j (hE'.symm (com_mate h' es b)))
    rw [cl_congr (mrg_same hE' c)] at hc
    omega
theorem Flat.congr (h : Pm N σ) {es es' : Prs} (hm : ∀ x, mate es x = mate es' x) (hl : es.length = es'.length) (h1 : ∀ e ∈ es, com σ es' e.1 e.2) (h2 : ∀ e ∈ es', com σ es e.1 e.2) (hf : Flat N σ es) : Flat N σ es' := by
  unfold Flat at hf ⊢
  have e : phi σ es = phi σ es' := funext fun x => hm (σ x)
  have c : ∀ x y, com σ es x y ↔ com σ es' x y := fun x y =>
    ⟨fun k => com_least (com_equiv h es') (fun z => com_sub (Orb.one σ z)) h1 k, fun k => com_least (com_equiv h es) (fun z => com_sub (Orb.one σ z)) h2 k⟩
  rw [← e, ← cl_congr c, ← hl]
  exact hf
end
theorem Dis.perm {es es' : Prs} (h : Dis es) (p : es.Perm es') : Dis es' := by
  refine (p.pairwise_iff ?_).1 h
  rintro x y ⟨h1, h2, h3, h4⟩
  exact ⟨fun e => h1 e.symm, fun e => h3 e.symm, fun e => h2 e.symm, fun e => h4 e.symm⟩
theorem mate_perm {es es' : Prs} (h : Dis es) (p : es.Perm es') (x : Nat) : mate es x = mate es' x := by
  by_cases c : inPrs es x
  · obtain ⟨e, he, k | k⟩ := c
    · rw [k, (mate_pair h he).1, (mate_pair (h.perm p) (p.mem_iff.1 he)).1]
    · rw [k, (mate_pair h he).2, (mate_pair (h.perm p) (p.mem_iff.1 he)).2]
  · rw [mate_out c, mate_out fun ⟨e, he, k⟩ => c ⟨e, p.mem_iff.2 he, k⟩]
section
variable {N : Nat} {σ : Nat → Nat}
theorem Good.perm {es es' : Prs} (h : Good N es) (p : es.Perm es') : Good N es' := fun e he => h e (p.mem_iff.2 he)
theorem Flat.perm (h : Pm N σ) {es es' : Prs} (hd : Dis es) (p : es.Perm es') (hf : Flat N σ es) : Flat N σ es' :=
  hf.congr h (mate_perm hd p) p.length_eq (fun _ he => com_pair h (p.mem_iff.1 he)) fun _ he => com_pair h (p.mem_iff.2 he)
/- the ends of a pair turned -/
theorem com_flip (h : Pm N σ) {a b : Nat} (es : Prs) : ∀ e ∈ (a, b) :: es, com σ ((b, a) :: es) e.1 e.2 := fun e he => by
  rcases List.mem_cons.1 he with rfl | he
  · exact (com_equiv h _).symm (com_pair h (e := (b, a)) (List.mem_cons_self ..))
  · exact com_pair h (List.mem_cons_of_mem _ he)
theorem Flat.flip (h : Pm N σ) {a b : Nat} {es : Prs} (hf : Flat N σ ((a, b) :: es)) : Flat N σ ((b, a) :: es) :=
  Flat.congr (es := (a, b) :: es) (es' := (b, a) :: es) h (fun x => swp_comm a b (mate es x)) rfl (com_flip h es) (com_flip h es) hf
theorem Flat.contract (h : Pm N σ) {a b : Nat} {es : Prs} (hg : Good N ((a, b) :: es)) (hd : Dis ((a, b) :: es)) (k : ¬ Orb σ a b) (hf : Flat N σ ((a, b) :: es)) : Flat N (fun x => swp a b (σ x)) es := by
  unfold Flat at hf ⊢
  obtain ⟨ha, hb, hne⟩ : a < N ∧ b < N ∧ a ≠ b := hg (a, b) (List.mem_cons_self ..)
  obtain ⟨o1, o2⟩ : ¬ inPrs es a ∧ ¬ inPrs es b := hd.out
  have h' := h.swp ha hb
  have e : phi (fun x => swp a b (σ x)) es = phi σ ((a, b) :: es) := funext fun x => by
    show mate es (swp a b (σ x)) = swp a b (mate es (σ x))
    rw [mate_swp, mate_out o1, mate_out o2]
  have hV := cl_join h ha hb k
  have j := orb_join (a := a) (b := b) h k
  have c : ∀ x y, com (fun x => swp a b (σ x)) es x y ↔ com σ ((a, b) :: es) x y := fun x y => by
    have := com_split h' ha hb es j x y
    rw [swp_twice σ a b] at this
    exact this
  rw [e, cl_congr c]
  rw [List.length_cons] at hf
  omega
/- an end moved on to the next place of its vertex, if nothing is tied there -/
theorem com_move (h : Pm N σ) {p q v : Nat} (hp : p < N) (hv : v < N) {es : Prs} (k : Orb σ v p) (x y : Nat) :
    com σ ((v, q) :: es) x y ↔ mrg (com (fun x => swp v p (σ x)) ((p, q) :: es)) v p x y := by
  have h' := h.swp hv hp
  have hR := mrg_equiv (com_equiv h' ((p, q) :: es)) v p
  have hvp : mrg (com (fun x => swp v p (σ x)) ((p, q) :: es)) v p v p := .inr (.inl ⟨(com_equiv h' _).refl _, (com_equiv h' _).refl _⟩)
  have hE := com_equiv h ((v, q) :: es)
  have ab : com σ ((v, q) :: es) v p := com_sub k
  constructor
  · intro c
    refine com_least hR (fun z => ?_) (fun e he => ?_) c
    · have o : mrg (com (fun x => swp v p (σ x)) ((p, q) :: es)) v p z (swp v p (σ z)) := .inl (com_sub (Orb.one (fun x => swp v p (σ x)) z))
      by_cases c : σ z = v
      · rw [c, swp_a] at o; rw [c]; exact hR.trans o (hR.symm hvp)
      · by_cases d : σ z = p
        · rw [d, swp_b] at o; rw [d]; exact hR.trans o hvp
        · rwa [swp_ne c d] at o
    · rcases List.mem_cons.1 he with rfl | he
      · exact hR.trans hvp (.inl (com_pair h' (e := (p, q)) (List.mem_cons_self ..)))
      · exact .inl (com_pair h' (List.mem_cons_of_mem _ he))
  · have low : ∀ {x y}, com (fun x => swp v p (σ x)) ((p, q) :: es) x y → com σ ((v, q) :: es) x y := fun {x y} c => by
      refine com_least hE (fun z => ?_) (fun e he => ?_) c
      · have o : com σ ((v, q) :: es) z (σ z) := com_sub (Orb.one σ z)
        show com σ ((v, q) :: es) z (swp v p (σ z))
        by_cases c : σ z = v
        · rw [c, swp_a]; rw [c] at o; exact hE.trans o ab
        · by_cases d : σ z = p
          · rw [d, swp_b]; rw [d] at o; exact hE.trans o (hE.symm ab)
          · rwa [swp_ne c d]
      · rcases List.mem_cons.1 he with rfl | he
        · exact hE.trans (hE.symm ab) (com_pair h (e := (v, q)) (List.mem_cons_self ..))
        · exact com_pair h (List.mem_cons_of_mem _ he)
    rintro (c | ⟨c, d⟩ | ⟨c, d⟩)
    · exact low c
    · exact hE.trans (low c) (hE.trans ab (low d))
    · exact hE.trans (low c) (hE.trans (hE.symm ab) (low d))
theorem Flat.move (h : Pm N σ) {p q v : Nat} {es : Prs} (hg : Good N ((v, q) :: es)) (hd : Dis ((v, q) :: es)) (hp : p < N) (hpv : p ≠ v) (hpq : p ≠ q) (ho : ¬ inPrs es p) (k : σ v = p) (hf : Flat N σ ((v, q) :: es)) : Flat N (fun x => swp v p (σ x)) ((p, q) :: es) := by
  obtain ⟨hv, hq, hvq⟩ : v < N ∧ q < N ∧ v ≠ q := hg (v, q) (List.mem_cons_self ..)
  obtain ⟨o1, o2⟩ : ¬ inPrs es v ∧ ¬ inPrs es q := hd.out
  have h' := h.swp hv hp
  have hg' : Good N ((p, q) :: es) := fun e he => by
    rcases List.mem_cons.1 he with rfl | he
    · exact ⟨hp, hq, hpq⟩
    · exact hg.tail e he
  have hE := (euler h' hg').1
  have ko : Orb σ v p := ⟨1, k⟩
  have hV := cl_part h hv hp (fun e => hpv e.symm) ko
  have hm : ∀ z, swp p q (swp v p z) = swp v p (swp v q z) := fun z => by
    have n1 : ¬ v = p := fun e => hpv e.symm
    have n2 : ¬ q = p := fun e => hpq e.symm
    have n3 : ¬ q = v := fun e => hvq e.symm
    by_cases c1 : z = v
    · subst c1; rw [swp_a, swp_a, swp_a, swp_ne n3 n2]
    · by_cases c2 : z = p
      · subst c2; rw [swp_b, swp_ne n1 hvq, swp_ne c1 hpq, swp_b]
      · by_cases c3 : z = q
        · subst c3; rw [swp_ne c1 c2, swp_b, swp_b, swp_a]
        · rw [swp_ne c1 c2, swp_ne c2 c3, swp_ne c1 c3, swp_ne c1 c2]
  have e : phi (fun x => swp v p (σ x)) ((p, q) :: es) = fun x => swp v p (phi σ ((v, q) :: es) x) := funext fun x => by
    show swp p q (mate es (swp v p (σ x))) = swp v p (swp v q (mate es (σ x)))
    rw [mate_swp, mate_out o1, mate_out ho]
    exact hm _
  have kf : Orb (phi σ ((v, q) :: es)) v p := ⟨1, by
    show swp v q (mate es (σ v)) = p
    rw [k, mate_out ho, swp_ne hpv hpq]⟩
  have hF := cl_part (phi_pm h hg) hv hp (fun e => hpv e.symm) kf
  have hc := cl_congr (N := N) (com_move (q := q) h hp hv (es := es) ko)
  unfold Flat at hf ⊢
  rw [e] at hE ⊢
  rw [List.length_cons] at hE hf ⊢
  by_cases c : com (fun x => swp v p (σ x)) ((p, q) :: es) v p
  · rw [cl_congr (mrg_same (com_equiv h' _) c)] at hc; omega
  · have := cl_mrg (com_equiv h' _) hv hp c
    omega
end
end Go.Proofs.Ytlicglicfijelaa.Kn

/- Where Euler's formula is an equation: whole numbers on the pairs that add up to nothing wherever σ goes in itself are differences of numbers on the orbits: plain mathematics. -/
namespace Go.Proofs.Ytlicglicfijelaa.Kn

def lz (l : List Nat) (f : Nat → Int) : Int := (l.map f).sum
theorem lz_cons (a : Nat) (l : List Nat) (f : Nat → Int) : lz (a :: l) f = f a + lz l f := by unfold lz; simp
theorem lz_app (l m : List Nat) (f : Nat → Int) : lz (l ++ m) f = lz l f + lz m f := by unfold lz; simp
theorem lz_perm {l m : List Nat} (p : l.Perm m) (f : Nat → Int) : lz l f = lz m f := by
  induction p with
  | nil => rfl
  | cons a _ ih => rw [lz_cons, lz_cons, ih]
  | swap a b l => rw [lz_cons, lz_cons, lz_cons, lz_cons]; omega
  | trans _ _ h1 h2 => exact h1.trans h2
theorem lz_congr {f g : Nat → Int} : ∀ {l : List Nat}, (∀ d ∈ l, f d = g d) → lz l f = lz l g
  | [], _ => rfl
  | a :: l, h => by rw [lz_cons, lz_cons, h a (by simp), lz_congr fun d hd => h d (by simp [hd])]
theorem lz_add (f g : Nat → Int) : ∀ l : List Nat, lz l (fun d => f d + g d) = lz l f + lz l g
  | [] => rfl
  | a :: l => by rw [lz_cons, lz_cons, lz_cons, lz_add f g l]; omega
theorem lz_mul (k : Int) (f : Nat → Int) : ∀ l : List Nat, lz l (fun d => k * f d) = k * lz l f
  | [] => by unfold lz; simp
  | a :: l => by rw [lz_cons, lz_cons, lz_mul k f l, Int.mul_add]
theorem lz_none : ∀ l : List Nat, lz l (fun _ => 0) = 0
  | [] => rfl
  | a :: l => by rw [lz_cons, lz_none l]; rfl
theorem lz_map (g : Nat → Nat) (f : Nat → Int) (l : List Nat) : lz (l.map g) f = lz l fun d => f (g d) := by
  unfold lz; rw [List.map_map]; rfl
abbrev sz (N : Nat) (f : Nat → Int) : Int := lz (List.range N) f
section
variable {N : Nat} {σ : Nat → Nat}
theorem sz_congr {f g : Nat → Int} (h : ∀ d, d < N → f d = g d) : sz N f = sz N g := lz_congr fun d hd => h d (List.mem_range.1 hd)
theorem sz_pm (h : Pm N σ) (f : Nat → Int) : sz N (fun d => f (σ d)) = sz N f := by
  have h1 : ((List.range N).map σ).Perm (List.range N) := inj_perm List.nodup_range (fun x hx => List.mem_range.2 (h.lt x (List.mem_range.1 hx))) fun x _ y _ e => h.inj x y e
  have h2 := lz_perm h1 f
  rw [lz_map] at h2
  exact h2
theorem sz_one {a : Nat} (ha : a < N) (v : Int) : sz N (fun d => if d = a then v else 0) = v := by
  have key : ∀ l : List Nat, l.Nodup → a ∈ l → lz l (fun d => if d = a then v else 0) = v := by
    intro l
    induction l with
    | nil => intro _ h; cases h
    | cons b l ih =>
      intro hn hm
      rw [List.nodup_cons] at hn
      rw [lz_cons]
      by_cases e : b = a
      · subst e
        rw [if_pos rfl]
        have : lz l (fun d => if d = b then v else 0) = lz l (fun _ => 0) := lz_congr fun d hd => if_neg fun k => hn.1 (by rw [← k]; exact hd)
        rw [this, lz_none]; omega
      · rw [if_neg e, ih hn.2 ((List.mem_cons.1 hm).resolve_left fun k => e k.symm)]; omega
  exact key _ List.nodup_range (List.mem_range.2 ha)
structure MarkZ (es : Prs) (z : Nat → Int) : Prop where
  sup : ∀ d, z d ≠ 0 → inPrs es d
  pair : ∀ e ∈ es, z e.1 = -z e.2
theorem MarkZ.zero : ∀ {es : Prs}, Good N es → Dis es → ∀ {z : Nat → Int}, MarkZ es z → sz N z = 0
  | [], _, _, z, h => by
    have : sz N z = sz N (fun _ => 0) := sz_congr fun d _ => Classical.byContradiction fun k => by
      obtain ⟨e, he, _⟩ := h.sup d k
      cases he
    exact this.trans (lz_none _)
  | e :: es, hg, hd, z, h => by
    obtain ⟨g1, g2, g3⟩ := hg e (by simp)
    obtain ⟨o1, o2⟩ := hd.out
    have hz := h.pair e (by simp)
    have h1 : MarkZ es (fun d => if d = e.1 ∨ d = e.2 then 0 else z d) := by
      refine ⟨fun d k => ?_, fun p hp => ?_⟩
      · by_cases c : d = e.1 ∨ d = e.2
        · rw [if_pos c] at k; exact absurd rfl k
        · rw [if_neg c] at k
          obtain ⟨x, hx, y⟩ := h.sup d k
          rcases List.mem_cons.1 hx with rfl | hx
          · exact absurd y c
          · exact ⟨x, hx, y⟩
      · have a1 : p.1 ≠ e.1 := fun k => o1 ⟨p, hp, .inl k.symm⟩
        have a2 : p.2 ≠ e.1 := fun k => o1 ⟨p, hp, .inr k.symm⟩
        have a3 : p.1 ≠ e.2 := fun k => o2 ⟨p, hp, .inl k.symm⟩
        have a4 : p.2 ≠ e.2 := fun k => o2 ⟨p, hp, .inr k.symm⟩
        rw [if_neg (by simp [a1, a3]), if_neg (by simp [a2, a4])]
        exact h.pair p (by simp [hp])
    have h2 := MarkZ.zero hg.tail hd.tail h1
    have h3 : sz N z = sz N (fun d => (if d = e.1 ∨ d = e.2 then 0 else z d) + ((if d = e.1 then z e.1 else 0) + (if d = e.2 then z e.2 else 0))) := sz_congr fun d _ => by
      by_cases c : d = e.1
      · subst c
        rw [if_pos (.inl rfl), if_pos rfl, if_neg g3]; omega
      · by_cases c' : d = e.2
        · subst c'
          rw [if_pos (.inr rfl), if_neg c, if_pos rfl]; omega
        · rw [if_neg (by simp [c, c']), if_neg c, if_neg c']; omega
    have k1 := sz_one g1 (z e.1)
    have k2 := sz_one g2 (z e.2)
    unfold sz at k1 k2 h3 h2 ⊢
    rw [h3, lz_add, lz_add, h2, k1, k2]; omega
theorem MarkZ.tail {e : Nat × Nat} {es : Prs} {z : Nat → Int} (h : MarkZ (e :: es) z) (h1 : z e.1 = 0) (h2 : z e.2 = 0) : MarkZ es z := by
  refine ⟨fun d k => ?_, fun p hp => h.pair p (by simp [hp])⟩
  obtain ⟨x, hx, y⟩ := h.sup d k
  rcases List.mem_cons.1 hx with rfl | hx
  · rcases y with rfl | rfl
    · exact absurd h1 k
    · exact absurd h2 k
  · exact ⟨x, hx, y⟩
noncomputable def ti (p : Prop) : Int := if tr p then 1 else 0
theorem ti_one {p : Prop} (h : p) : ti p = 1 := by unfold ti; rw [tr_iff.2 h]; rfl
theorem ti_zero {p : Prop} (h : ¬ p) : ti p = 0 := by unfold ti; rw [tr_false.2 h]; rfl
theorem ti_congr {p q : Prop} (h : p ↔ q) : ti p = ti q := by unfold ti; rw [tr_congr h]
theorem colourZ (h : Pm N σ) : ∀ {es : Prs}, Good N es → Dis es → Flat N σ es →
    ∀ {z : Nat → Int}, MarkZ es z → (∀ K : Nat → Int, (∀ d, K (σ d) = K d) → sz N (fun d => K d * z d) = 0) →
    ∃ col : Nat → Int, (∀ d, col (phi σ es d) = col d) ∧ ∀ e ∈ es, col e.1 - col e.2 = z e.1
  | [], _, _, _, z, _, _ => ⟨fun _ => 0, fun _ => rfl, fun e he => by cases he⟩
  | e :: es, hg, hd, heq, z, hz, hK => by
    obtain ⟨g1, g2, g3⟩ := hg e (by simp)
    obtain ⟨o1, o2⟩ := hd.out
    have hze := hz.pair e (by simp)
    have hp := phi_pm h hg.tail
    have hc := com_equiv h es
    obtain ⟨i1, _⟩ := euler h hg.tail
    unfold Flat at heq
    rw [phi_cons, List.length_cons] at heq
    change _ = _ + 2 * cl N (mrg (com σ es) e.1 e.2) at heq
    by_cases c : com σ es e.1 e.2
    · rw [cl_congr (mrg_same hc c)] at heq
      have ho : Orb (phi σ es) e.1 e.2 := Classical.byContradiction fun k => by
        have := cl_join hp g1 g2 k
        omega
      have hcl := cl_part hp g1 g2 g3 ho
      have heq' : Flat N σ es := by unfold Flat; omega
      obtain ⟨C, hC⟩ : ∃ C : Nat → Int, ∀ d, C d = ti (Orb (phi σ (e :: es)) e.1 d) := ⟨_, fun _ => rfl⟩
      have hp' := phi_pm h hg
      have hCi : ∀ d, C (phi σ (e :: es) d) = C d := fun d => by
        rw [hC, hC]
        exact ti_congr ⟨fun k => k.trans (hp'.symm (Orb.one _ d)), fun k => k.trans (Orb.one _ d)⟩
      have hCa : C e.1 = 1 := by rw [hC]; exact ti_one (Orb.refl _ _)
      have hCb : C e.2 = 0 := by rw [hC]; exact ti_zero (orb_part hp g3 ho)
      have m1 : mate (e :: es) e.1 = e.2 := (mate_pair hd (by simp)).1
      have m2 : mate (e :: es) e.2 = e.1 := (mate_pair hd (by simp)).2
      obtain ⟨z', hz'⟩ : ∃ z' : Nat → Int, ∀ d, z' d = z d + (z e.1 * C (mate (e :: es) d) + (-z e.1) * C d) := ⟨_, fun _ => rfl⟩
      have z1 : z' e.1 = 0 := by rw [hz', m1, hCa, hCb]; omega
      have z2 : z' e.2 = 0 := by rw [hz', m2, hCa, hCb]; omega
      have hm : MarkZ (e :: es) z' := by
        refine ⟨fun d k => Classical.byContradiction fun hn => ?_, fun p hp => ?_⟩
        · have h1 : z d = 0 := Classical.byContradiction fun k => hn (hz.sup d k)
          refine k ?_
          rw [hz', h1, mate_out hn, Int.neg_mul]
          omega
        · obtain ⟨q1, q2⟩ := mate_pair hd hp
          rw [hz', hz', q1, q2, hz.pair p hp]
          simp only [Int.neg_mul]
          omega
      have hK' : ∀ K : Nat → Int, (∀ d, K (σ d) = K d) → sz N (fun d => K d * z' d) = 0 := fun K hKs => by
        have a1 := hK K hKs
        have a2 : sz N (fun d => K d * z' d) = sz N (fun d => K d * z d + (z e.1 * (K d * C (mate (e :: es) d)) + (-z e.1) * (K d * C d))) := sz_congr fun d _ => by
          rw [hz', Int.mul_add, Int.mul_add, Int.mul_left_comm, Int.mul_left_comm (K d) (-z e.1)]
        have a5 : sz N (fun d => K d * C (mate (e :: es) d)) = sz N (fun d => K d * C d) := by
          rw [← sz_pm h]
          refine sz_congr fun d _ => ?_
          have : C (mate (e :: es) (σ d)) = C d := hCi d
          rw [hKs, this]
        unfold sz at a1 a2 a5 ⊢
        rw [a2, lz_add, lz_add, lz_mul, lz_mul, a1, a5, Int.neg_mul]
        omega
      obtain ⟨col, c1, c2⟩ := colourZ h hg.tail hd.tail heq' (hm.tail z1 z2) hK'
      have hab : col e.1 = col e.2 := (ho.ind (P := fun y => col y = col e.1) (fun x hx => (c1 x).trans hx) rfl).symm
      refine ⟨fun d => col d + z e.1 * C d, fun d => ?_, fun p hp => ?_⟩
      · show col (phi σ (e :: es) d) + z e.1 * C (phi σ (e :: es) d) = _
        rw [hCi]
        have : col (phi σ (e :: es) d) = col d := by
          rw [phi_cons]
          show col (swp e.1 e.2 (phi σ es d)) = col d
          rw [← c1 d]
          by_cases k : phi σ es d = e.1
          · rw [k, swp_a, hab]
          · by_cases k' : phi σ es d = e.2
            · rw [k', swp_b, hab]
            · rw [swp_ne k k']
        rw [this]
      · rcases List.mem_cons.1 hp with rfl | hp
        · show col p.1 + z p.1 * C p.1 - (col p.2 + z p.1 * C p.2) = _
          rw [hCa, hCb, hab]
          omega
        · show col p.1 + z e.1 * C p.1 - (col p.2 + z e.1 * C p.2) = _
          have q1 := (mate_pair hd (e := p) (by simp [hp])).1
          have q2 := c2 p hp
          rw [hz', q1, Int.neg_mul] at q2
          omega
    · have j1 := cl_mrg hc g1 g2 c
      have j2 := cl_join hp g1 g2 fun k => c (orb_com h hg.tail k)
      have heq' : Flat N σ es := by unfold Flat; omega
      obtain ⟨K, hKd⟩ : ∃ K : Nat → Int, ∀ d, K d = ti (com σ es e.1 d) := ⟨_, fun _ => rfl⟩
      have hKc : ∀ {x y}, com σ es x y → K x = K y := fun {x y} k => by
        rw [hKd, hKd]; exact ti_congr ⟨fun l => hc.trans l k, fun l => hc.trans l (hc.symm k)⟩
      have hKa : K e.1 = 1 := by rw [hKd]; exact ti_one (hc.refl _)
      have hKb : K e.2 = 0 := by rw [hKd]; exact ti_zero c
      have hev := hK K fun d => (hKc (com_sub (Orb.one σ d))).symm
      have hm1 : MarkZ es (fun d => if d = e.1 then 0 else K d * z d) := by
        refine ⟨fun d k => ?_, fun p hp => ?_⟩
        · by_cases c' : d = e.1
          · rw [if_pos c'] at k; exact absurd rfl k
          · rw [if_neg c'] at k
            have : z d ≠ 0 := fun k' => k (by rw [k']; simp)
            obtain ⟨x, hx, y⟩ := hz.sup d this
            rcases List.mem_cons.1 hx with rfl | hx
            · rcases y with y | y
              · exact absurd y c'
              · rw [y, hKb] at k; exact absurd (by simp) k
            · exact ⟨x, hx, y⟩
        · have a1 : p.1 ≠ e.1 := fun k => o1 ⟨p, hp, .inl k.symm⟩
          have a3 : p.2 ≠ e.1 := fun k => o1 ⟨p, hp, .inr k.symm⟩
          rw [if_neg a1, if_neg a3, hz.pair p (by simp [hp]), hKc (com_pair h hp), Int.mul_neg]
      have hev1 := hm1.zero hg.tail hd.tail
      have hsum : sz N (fun d => K d * z d) = sz N (fun d => (if d = e.1 then 0 else K d * z d) + (if d = e.1 then z e.1 else 0)) := sz_congr fun d _ => by
        by_cases k : d = e.1
        · subst k; rw [hKa, if_pos rfl, if_pos rfl]; omega
        · rw [if_neg k, if_neg k]; omega
      have k1 := sz_one g1 (z e.1)
      have z1 : z e.1 = 0 := by
        unfold sz at hev hev1 hsum k1
        rw [lz_add, hev1, k1, hev] at hsum
        omega
      obtain ⟨col, c1, c2⟩ := colourZ h hg.tail hd.tail heq' (hz.tail z1 (by omega)) hK
      obtain ⟨t, ht⟩ : ∃ t, t = col e.1 - col e.2 := ⟨_, rfl⟩
      refine ⟨fun d => col d - t * K d, fun d => ?_, fun p hp => ?_⟩
      · show (fun d => col d - t * K d) (swp e.1 e.2 (phi σ es d)) = col d - t * K d
        have k1 : K (phi σ es d) = K d := (hKc (orb_com h hg.tail (Orb.one _ d))).symm
        rw [← c1 d, ← k1]
        by_cases k : phi σ es d = e.1
        · rw [k, swp_a]
          show col e.2 - t * K e.2 = col e.1 - t * K e.1
          rw [hKa, hKb, ht]; omega
        · by_cases k' : phi σ es d = e.2
          · rw [k', swp_b]
            show col e.1 - t * K e.1 = col e.2 - t * K e.2
            rw [hKa, hKb, ht]; omega
          · rw [swp_ne k k']
      · rcases List.mem_cons.1 hp with rfl | hp
        · show col p.1 - t * K p.1 - (col p.2 - t * K p.2) = z p.1
          rw [hKa, hKb, ht, z1]; omega
        · show col p.1 - t * K p.1 - (col p.2 - t * K p.2) = z p.1
          rw [hKc (com_pair h hp), ← c2 p hp]
          omega
end
end Go.Proofs.Ytlicglicfijelaa.Kn

/- A vertex of two ends left out: plain mathematics. -/
namespace Go.Proofs.Ytlicglicfijelaa.Kn
section
variable {N : Nat} {σ : Nat → Nat}
theorem inPrs_iff {es : Prs} (hg : Good N es) (hd : Dis es) (x : Nat) : inPrs es x ↔ mate es x ≠ x := by
  constructor
  · rintro ⟨e, he, k | k⟩
    · rw [k, (mate_pair hd he).1]; exact fun c => (hg e he).2.2 c.symm
    · rw [k, (mate_pair hd he).2]; exact (hg e he).2.2
  · intro k
    exact Classical.byContradiction fun c => k (mate_out c)
theorem mate_mate {es : Prs} (hd : Dis es) (x : Nat) : mate es (mate es x) = x := by
  by_cases c : inPrs es x
  · obtain ⟨e, he, k | k⟩ := c
    · rw [k, (mate_pair hd he).1, (mate_pair hd he).2]
    · rw [k, (mate_pair hd he).2, (mate_pair hd he).1]
  · rw [mate_out c, mate_out c]
theorem Dis.flip {a b : Nat} {es : Prs} (h : Dis ((a, b) :: es)) : Dis ((b, a) :: es) := by
  unfold Dis at h ⊢
  rw [List.pairwise_cons] at h ⊢
  refine ⟨fun d hd => ?_, h.2⟩
  obtain ⟨h1, h2, h3, h4⟩ := h.1 d hd
  exact ⟨h3, h4, h1, h2⟩
theorem Good.flip {a b : Nat} {es : Prs} (h : Good N ((a, b) :: es)) : Good N ((b, a) :: es) := fun e he => by
  rcases List.mem_cons.1 he with rfl | he
  · have := h (a, b) (List.mem_cons_self ..)
    exact ⟨this.2.1, this.1, fun c => this.2.2 c.symm⟩
  · exact h.tail e he
theorem Flat.bring (h : Pm N σ) {es : Prs} (hg : Good N es) (hd : Dis es) {u : Nat} (hu : inPrs es u) (hf : Flat N σ es) :
    ∃ p es0, Good N ((u, p) :: es0) ∧ Dis ((u, p) :: es0) ∧ Flat N σ ((u, p) :: es0) ∧ ∀ z, mate ((u, p) :: es0) z = mate es z := by
  obtain ⟨⟨a, b⟩, he, k⟩ := hu
  have P := List.perm_cons_erase he
  have hg' := hg.perm P
  have hd' := hd.perm P
  have hf' := hf.perm h hd P
  have hm := mate_perm hd P
  rcases k with k | k
  · have k : u = a := k
    subst k
    exact ⟨b, _, hg', hd', hf', fun z => (hm z).symm⟩
  · have k : u = b := k
    subst k
    exact ⟨a, _, hg'.flip, hd'.flip, hf'.flip h, fun z => by rw [hm z]; exact swp_comm u a _⟩
theorem swp3 {u v p : Nat} (huv : u ≠ v) (hup : u ≠ p) (hvp : v ≠ p) (z : Nat) : swp v p (swp u v (swp u p z)) = swp u v z := by
  have n1 : v ≠ u := fun e => huv e.symm
  have n2 : p ≠ u := fun e => hup e.symm
  have n3 : p ≠ v := fun e => hvp e.symm
  by_cases c1 : z = u
  · subst c1; rw [swp_a, swp_ne n2 n3, swp_b, swp_a]
  · by_cases c2 : z = v
    · subst c2; rw [swp_ne n1 hvp, swp_b, swp_ne huv hup]
    · by_cases c3 : z = p
      · subst c3; rw [swp_b, swp_a, swp_a, swp_ne n2 n3]
      · rw [swp_ne c1 c3, swp_ne c1 c2, swp_ne c2 c3]
theorem Flat.suppress (h : Pm N σ) {es : Prs} (hg : Good N es) (hd : Dis es) {u v : Nat} (hne : u ≠ v) (huv : σ u = v) (hvu : σ v = u) (hu : inPrs es u) (hv : inPrs es v) (hf : Flat N σ es) :
    ∃ es', Good N es' ∧ Dis es' ∧ Flat N (fun x => swp u v (σ x)) es' ∧ ∀ z, mate es' z = if z = u ∨ z = v then z else if mate es z = u then mate es v else if mate es z = v then mate es u else mate es z := by
  obtain ⟨p, es0, g0, d0, f0, m0⟩ := hf.bring h hg hd hu
  obtain ⟨hu', hp, hup⟩ : u < N ∧ p < N ∧ u ≠ p := g0 (u, p) (List.mem_cons_self ..)
  obtain ⟨o1, o2⟩ : ¬ inPrs es0 u ∧ ¬ inPrs es0 p := d0.out
  have m0 : ∀ z, mate es z = swp u p (mate es0 z) := fun z => (m0 z).symm
  have hvN : v < N := by
    have := h.lt u hu'; rwa [huv] at this
  by_cases c : p = v
  · subst c
    have f1 := (f0.drop h g0).split h g0.tail hu' hp hup ⟨1, huv⟩
    refine ⟨es0, g0.tail, d0.tail, f1, fun z => ?_⟩
    by_cases c1 : z = u ∨ z = p
    · rw [if_pos c1]
      rcases c1 with rfl | rfl
      · exact mate_out o1
      · exact mate_out o2
    · have c2 : mate es0 z ≠ u := fun k => c1 (.inl (mate_inj (k.trans (mate_out o1).symm)))
      have c3 : mate es0 z ≠ p := fun k => c1 (.inr (mate_inj (k.trans (mate_out o2).symm)))
      rw [if_neg c1, m0 z, swp_ne c2 c3, if_neg c2, if_neg c3]
  · have hpv : p ≠ v := c
    have hvp : v ≠ p := fun e => c e.symm
    have hk : ¬ Orb σ u p := by
      intro k
      have : p = u ∨ p = v := k.ind (P := fun y => y = u ∨ y = v) (fun y hy => by
        rcases hy with rfl | rfl
        · exact .inr huv
        · exact .inl hvu) (.inl rfl)
      rcases this with k | k
      · exact hup k.symm
      · exact hpv k
    have f1 := f0.contract h g0 d0 hk
    have h1 : Pm N (fun x => swp u p (σ x)) := h.swp hu' hp
    have iv : inPrs es0 v := by
      rw [inPrs_iff hg hd, m0 v] at hv
      rw [inPrs_iff g0.tail d0.tail]
      intro k
      rw [k, swp_ne (fun e => hne e.symm) hvp] at hv
      exact hv rfl
    obtain ⟨q, es1, g1, d1, f2, m1⟩ := f1.bring h1 g0.tail d0.tail iv
    obtain ⟨_, hq, hvq⟩ : v < N ∧ q < N ∧ v ≠ q := g1 (v, q) (List.mem_cons_self ..)
    obtain ⟨o3, o4⟩ : ¬ inPrs es1 v ∧ ¬ inPrs es1 q := d1.out
    have m1 : ∀ z, mate es0 z = swp v q (mate es1 z) := fun z => (m1 z).symm
    have f3 := f2.split h1 g1 hu' hvN hne ⟨1, by
      show swp u p (σ u) = v
      rw [huv]; exact swp_ne (fun e => hne e.symm) hvp⟩
    have h2 : Pm N (fun x => swp u v (swp u p (σ x))) := h1.swp hu' hvN
    -- what is not tied
    have mq0 : mate es0 q = v := by rw [m1, mate_out o4, swp_b]
    have hpq : p ≠ q := fun e => by
      have : mate es0 p = p := mate_out o2
      rw [e, mq0] at this; exact hvq this
    have huq : u ≠ q := fun e => by
      have : mate es0 u = u := mate_out o1
      rw [e, mq0] at this; exact hvq this
    have out1 : ∀ {z}, ¬ inPrs es0 z → ¬ inPrs es1 z := fun {z} hz k => by
      have e1 : mate es0 z = z := mate_out hz
      rw [m1] at e1
      rw [inPrs_iff g1.tail d1.tail] at k
      by_cases c1 : mate es1 z = v
      · exact k (by rw [c1]; exact (mate_inj (c1.trans (mate_out o3).symm)).symm)
      · by_cases c2 : mate es1 z = q
        · exact k (by rw [c2]; exact (mate_inj (c2.trans (mate_out o4).symm)).symm)
        · rw [swp_ne c1 c2] at e1; exact k e1
    have f4 := f3.move h2 g1 d1 hp hpv hpq (out1 o2) (by
      show swp u v (swp u p (σ v)) = p
      rw [hvu, swp_a]; exact swp_ne (fun e => hup e.symm) hpv)
    have g4 : Good N ((p, q) :: es1) := fun e he => by
      rcases List.mem_cons.1 he with rfl | he
      · exact ⟨hp, hq, hpq⟩
      · exact g1.tail e he
    have d4 : Dis ((p, q) :: es1) := by
      unfold Dis
      rw [List.pairwise_cons]
      refine ⟨fun d hd => ⟨fun e => out1 o2 ⟨d, hd, .inl e⟩, fun e => out1 o2 ⟨d, hd, .inr e⟩, fun e => o4 ⟨d, hd, .inl e⟩, fun e => o4 ⟨d, hd, .inr e⟩⟩, d1.tail⟩
    refine ⟨(p, q) :: es1, g4, d4, ?_, fun z => ?_⟩
    · have e : (fun x => swp v p (swp u v (swp u p (σ x)))) = fun x => swp u v (σ x) := funext fun x => swp3 hne hup hvp _
      rw [← e]; exact f4
    · have eu : mate es1 u = u := mate_out (out1 o1)
      have ep : mate es1 p = p := mate_out (out1 o2)
      have ev : mate es1 v = v := mate_out o3
      have eq : mate es1 q = q := mate_out o4
      have mz : ∀ z, mate es z = swp u p (swp v q (mate es1 z)) := fun z => by rw [m0, m1]
      have mu : mate es u = p := by rw [mz, eu, swp_ne hne huq, swp_a]
      have mv : mate es v = q := by rw [mz, ev, swp_a, swp_ne (fun e => huq e.symm) (fun e => hpq e.symm)]
      have mp : mate es p = u := by rw [mz, ep, swp_ne hpv hpq, swp_b]
      have mq : mate es q = v := by rw [mz, eq, swp_b, swp_ne (fun e => hne e.symm) hvp]
      show swp p q (mate es1 z) = _
      by_cases c1 : z = u
      · rw [if_pos (.inl c1), c1, eu, swp_ne hup huq]
      · by_cases c2 : z = v
        · rw [if_pos (.inr c2), c2, ev, swp_ne hvp hvq]
        · rw [if_neg fun k => k.elim c1 c2]
          by_cases c3 : z = p
          · rw [c3, ep, swp_a, mp, if_pos rfl, mv]
          · by_cases c4 : z = q
            · rw [c4, eq, swp_b, mq, if_neg (fun e => hne e.symm), if_pos rfl, mu]
            · have w1 : mate es1 z ≠ u := fun k => c1 (mate_inj (k.trans eu.symm))
              have w2 : mate es1 z ≠ v := fun k => c2 (mate_inj (k.trans ev.symm))
              have w3 : mate es1 z ≠ p := fun k => c3 (mate_inj (k.trans ep.symm))
              have w4 : mate es1 z ≠ q := fun k => c4 (mate_inj (k.trans eq.symm))
              rw [swp_ne w3 w4, mz, swp_ne w2 w4, swp_ne w1 w3, if_neg w1, if_neg w2]
end
end Go.Proofs.Ytlicglicfijelaa.Kn

/- A kink and a face of two sides taken out, as permutations tell: plain mathematics. -/
namespace Go.Proofs.Ytlicglicfijelaa.Kn
section
variable {N : Nat} {σ : Nat → Nat}
end
end Go.Proofs.Ytlicglicfijelaa.Kn

/- Strands that go on where crossings are taken out: ends that are left, and which one is tied to which: plain mathematics. -/
namespace Go.Proofs.Ytlicglicfijelaa.Kn

theorem com_id_equiv (es : Prs) : Equivalence (com (fun x => x) es) := com_equiv (N := 0) ⟨fun _ h => h, fun _ _ => rfl, fun _ _ h => h⟩ es
theorem com_id_pair {es : Prs} {e : Nat × Nat} (h : e ∈ es) : com (fun x => x) es e.1 e.2 := com_pair (N := 0) ⟨fun _ h => h, fun _ _ => rfl, fun _ _ h => h⟩ h
theorem com_id_nil {x y : Nat} : com (fun x => x) [] x y ↔ x = y := by
  constructor
  · rintro ⟨n, hn⟩
    have : ∀ n, it (fun x : Nat => x) n x = x := fun n => by
      induction n with
      | zero => rfl
      | succ n ih => exact ih
    rw [← hn, this]
  · rintro rfl; exact Orb.refl _ _
theorem com_id_mono {es es' : Prs} (h : ∀ e ∈ es, com (fun x => x) es' e.1 e.2) {x y : Nat} (k : com (fun x => x) es x y) : com (fun x => x) es' x y :=
  com_least (com_id_equiv es') (fun x => (com_id_equiv es').refl x) h k

/- what is left of a diagram: the places, which arcs are one, and the place at the other end -/
structure Tied (X : List Cr) (live : Pl → Prop) (E : Nat → Nat → Prop) (o : Pl → Pl) : Prop where
  isP : ∀ p, live p → isPl X p
  lv : ∀ p, live p → live (o p)
  op : ∀ p, live p → cm X (o p) = !cm X p
  eq : ∀ p, live p → E (arcN X p) (arcN X (o p))
  un : ∀ p q, live p → live q → cm X p = cm X q → E (arcN X p) (arcN X q) → p = q
section
variable {X : List Cr} {live : Pl → Prop} {E : Nat → Nat → Prop} {o : Pl → Pl}
theorem Ok.tied (h : Ok X) : Tied X (isPl X) (com (fun x => x) []) (other X) where
  isP := fun _ hp => hp
  lv := fun _ hp => h.isPl_other hp
  op := fun _ hp => h.cm_other hp
  eq := fun _ hp => by rw [h.arc_other hp]; exact com_id_nil.2 rfl
  un := fun p q hp hq hc ha => h.uniq p q hp hq hc (by rw [← h.arcN_eq hp, ← h.arcN_eq hq, com_id_nil.1 ha])
theorem Tied.oo (h : Tied X live E o) (hE : Equivalence E) {p : Pl} (hp : live p) : o (o p) = p :=
  h.un _ _ (h.lv _ (h.lv _ hp)) hp (by rw [h.op _ (h.lv _ hp), h.op _ hp, Bool.not_not]) (hE.symm (hE.trans (h.eq _ hp) (h.eq _ (h.lv _ hp))))
theorem Tied.ne (h : Tied X live E o) {p : Pl} (hp : live p) : o p ≠ p := fun e => by
  have := h.op p hp
  rw [e] at this
  cases hh : cm X p <;> simp [hh] at this
theorem Tied.congr (h : Tied X live E o) {live' : Pl → Prop} {E' : Nat → Nat → Prop} {o' : Pl → Pl} (h1 : ∀ p, live' p ↔ live p) (h2 : ∀ x y, E' x y ↔ E x y) (h3 : ∀ p, live p → o' p = o p) : Tied X live' E' o' where
  isP := fun p hp => h.isP p ((h1 p).1 hp)
  lv := fun p hp => by rw [h3 p ((h1 p).1 hp)]; exact (h1 _).2 (h.lv p ((h1 p).1 hp))
  op := fun p hp => by rw [h3 p ((h1 p).1 hp)]; exact h.op p ((h1 p).1 hp)
  eq := fun p hp => by rw [h3 p ((h1 p).1 hp)]; exact (h2 _ _).2 (h.eq p ((h1 p).1 hp))
  un := fun p q hp hq hc ha => h.un p q ((h1 p).1 hp) ((h1 q).1 hq) hc ((h2 _ _).1 ha)
theorem Tied.step (h : Tied X live E o) (hE : Equivalence E) {u v : Pl} (hu : live u) (hv : live v) (hc : cm X v = !cm X u) :
    Tied X (fun p => live p ∧ p ≠ u ∧ p ≠ v) (mrg E (arcN X u) (arcN X v)) (fun p => if o p = u then o v else if o p = v then o u else o p) where
  isP := fun p hp => h.isP p hp.1
  lv := fun p ⟨hp, h1, h2⟩ => by
    show live (if _ then _ else _) ∧ _
    by_cases c : o p = u
    · simp only [if_pos c]
      refine ⟨h.lv v hv, fun e => h2 ?_, h.ne hv⟩
      rw [← h.oo hE hp, c, ← e, h.oo hE hv]
    · simp only [if_neg c]
      by_cases d : o p = v
      · simp only [if_pos d]
        refine ⟨h.lv u hu, h.ne hu, fun e => h1 ?_⟩
        rw [← h.oo hE hp, d, ← e, h.oo hE hu]
      · simp only [if_neg d]
        exact ⟨h.lv p hp, c, d⟩
  op := fun p ⟨hp, _, _⟩ => by
    have hop := h.op p hp
    by_cases c : o p = u
    · simp only [if_pos c]
      rw [c] at hop
      rw [h.op v hv, hc, hop]; simp
    · simp only [if_neg c]
      by_cases d : o p = v
      · simp only [if_pos d]
        rw [d, hc] at hop
        rw [h.op u hu, hop]
      · simp only [if_neg d]; exact hop
  eq := fun p ⟨hp, _, _⟩ => by
    have he := h.eq p hp
    by_cases c : o p = u
    · simp only [if_pos c]
      rw [c] at he
      exact .inr (.inl ⟨he, h.eq v hv⟩)
    · simp only [if_neg c]
      by_cases d : o p = v
      · simp only [if_pos d]
        rw [d] at he
        exact .inr (.inr ⟨he, h.eq u hu⟩)
      · simp only [if_neg d]; exact .inl he
  un := fun p q ⟨hp, p1, p2⟩ ⟨hq, q1, q2⟩ hcm ha => by
    rcases ha with ha | ⟨h1, h2⟩ | ⟨h1, h2⟩
    · exact h.un p q hp hq hcm ha
    · by_cases c : cm X p = cm X u
      · exact absurd (h.un p u hp hu c h1) p1
      · refine absurd (h.un v q hv hq ?_ h2).symm q2
        rw [hc, ← hcm]
        cases hh : cm X p <;> cases hk : cm X u <;> simp [hh, hk] at c <;> rfl
    · by_cases c : cm X p = cm X v
      · exact absurd (h.un p v hp hv c h1) p2
      · refine absurd (h.un u q hu hq ?_ h2).symm q1
        rw [← hcm]
        rw [hc] at c
        cases hh : cm X p <;> cases hk : cm X u <;> simp [hh, hk] at c <;> rfl
end
end Go.Proofs.Ytlicglicfijelaa.Kn

/- A diagram whose crossings are some of another one's: it may be; and it is planar, if what is left is: plain mathematics. -/
namespace Go.Proofs.Ytlicglicfijelaa.Kn

/- the k-th place where a strand comes in -/
def ip (Y : List Cr) (k : Nat) : Pl := (k / 2, if k % 2 = 0 then 0 else over (cr Y (k / 2)).p)
theorem over_lt (p : Bool) : over p < 4 := by cases p <;> decide
theorem over_pos (p : Bool) : over p ≠ 0 := by cases p <;> decide
theorem ip_pl {Y : List Cr} {k : Nat} (hk : k < nArcs Y) : isPl Y (ip Y k) := by
  unfold nArcs at hk
  refine ⟨by show k / 2 < _; omega, ?_⟩
  show (if k % 2 = 0 then 0 else over (cr Y (k / 2)).p) < 4
  split
  · omega
  · exact over_lt _
theorem ip_cm (Y : List Cr) (k : Nat) : cm Y (ip Y k) = true := by
  unfold cm ip Cr.comes
  simp only
  split <;> simp
theorem ip_inj {Y : List Cr} {j k : Nat} (h : ip Y j = ip Y k) : j = k := by
  unfold ip at h
  injection h with h1 h2
  rw [h1] at h2
  by_cases c : j % 2 = 0 <;> by_cases d : k % 2 = 0
  · omega
  · rw [if_pos c, if_neg d] at h2; exact absurd h2.symm (over_pos _)
  · rw [if_neg c, if_pos d] at h2; exact absurd h2 (over_pos _)
  · omega
theorem ip_all {Y : List Cr} {p : Pl} (hp : isPl Y p) (hc : cm Y p = true) : ∃ k, k < nArcs Y ∧ ip Y k = p := by
  obtain ⟨c, s⟩ := p
  obtain ⟨h1, h2⟩ := hp
  simp only at h1 h2
  unfold cm Cr.comes at hc
  simp only [Bool.or_eq_true, decide_eq_true_eq] at hc
  unfold nArcs ip
  rcases hc with rfl | hs
  · exact ⟨2 * c, by omega, by rw [show 2 * c / 2 = c by omega, if_pos (by omega)]⟩
  · exact ⟨2 * c + 1, by omega, by rw [show (2 * c + 1) / 2 = c by omega, if_neg (by omega), hs]⟩

structure Cut (X Y : List Cr) (f g : Nat → Nat) (live : Pl → Prop) (E : Nat → Nat → Prop) (o : Pl → Pl) : Prop where
  ok : Ok X
  mono : ∀ i j, i < j → j < Y.length → f i < f j
  lt : ∀ i, i < Y.length → f i < X.length
  alive : ∀ p, isPl X p → (live p ↔ ∃ i, i < Y.length ∧ f i = p.1)
  cr_ : ∀ i, i < Y.length → cr Y i = (cr X (f i)).ren g
  tied : Tied X live E o
  eqv : Equivalence E
  same : ∀ p q, live p → live q → (g (arcN X p) = g (arcN X q) ↔ E (arcN X p) (arcN X q))
  rng : ∀ p, live p → 1 ≤ g (arcN X p) ∧ g (arcN X p) ≤ nArcs Y
section
variable {X Y : List Cr} {f g : Nat → Nat} {live : Pl → Prop} {E : Nat → Nat → Prop} {o : Pl → Pl}
theorem Cut.inj (h : Cut X Y f g live E o) {i j : Nat} (hi : i < Y.length) (hj : j < Y.length) (e : f i = f j) : i = j := by
  rcases Nat.lt_trichotomy i j with c | c | c
  · have := h.mono i j c hj; omega
  · exact c
  · have := h.mono j i c hi; omega
theorem Cut.pl (h : Cut X Y f g live E o) {p : Pl} (hp : isPl Y p) : isPl X (onP f p) := ⟨h.lt _ hp.1, hp.2⟩
theorem Cut.liv (h : Cut X Y f g live E o) {p : Pl} (hp : isPl Y p) : live (onP f p) := (h.alive _ (h.pl hp)).2 ⟨p.1, hp.1, rfl⟩
theorem Cut.back (h : Cut X Y f g live E o) {q : Pl} (hq : live q) : ∃ p, isPl Y p ∧ onP f p = q := by
  obtain ⟨i, hi, e⟩ := (h.alive q (h.tied.isP q hq)).1 hq
  exact ⟨(i, q.2), ⟨hi, (h.tied.isP q hq).2⟩, by unfold onP; rw [e]⟩
theorem Cut.at_ (h : Cut X Y f g live E o) {p : Pl} (hp : isPl Y p) : at_ Y p = (g (arcN X (onP f p)) : Nat) := by
  unfold Kn.at_ arcN Kn.at_ onP
  rw [h.cr_ _ hp.1, ren_arc]
theorem Cut.arcN (h : Cut X Y f g live E o) {p : Pl} (hp : isPl Y p) : arcN Y p = g (arcN X (onP f p)) := by unfold Kn.arcN; rw [h.at_ hp]; rfl
theorem Cut.cm (h : Cut X Y f g live E o) {p : Pl} (hp : isPl Y p) : cm Y p = cm X (onP f p) := by
  unfold Kn.cm onP
  rw [h.cr_ _ hp.1]; rfl
theorem Cut.onP_inj (h : Cut X Y f g live E o) {p q : Pl} (hp : isPl Y p) (hq : isPl Y q) (e : onP f p = onP f q) : p = q := by
  obtain ⟨a, b⟩ := p
  obtain ⟨c, d⟩ := q
  unfold onP at e
  injection e with e1 e2
  simp only at e1 e2
  have e3 : a = c := h.inj hp.1 hq.1 e1
  rw [e3, e2]
theorem Cut.uniq (h : Cut X Y f g live E o) {p q : Pl} (hp : isPl Y p) (hq : isPl Y q) (hc : Kn.cm Y p = Kn.cm Y q) (ha : Kn.at_ Y p = Kn.at_ Y q) : p = q := by
  rw [h.at_ hp, h.at_ hq, Int.ofNat_inj] at ha
  exact h.onP_inj hp hq (h.tied.un _ _ (h.liv hp) (h.liv hq) (by rw [← h.cm hp, ← h.cm hq, hc]) ((h.same _ _ (h.liv hp) (h.liv hq)).1 ha))
theorem Cut.okY (h : Cut X Y f g live E o) : Ok Y := by
  refine ok_mk (fun p hp => ?_) (fun io a ha => ?_) fun p q hp hq hc ha => h.uniq hp hq hc ha
  · rw [h.at_ hp]
    have := h.rng _ (h.liv hp); omega
  · have hin : ∃ p, isPl Y p ∧ Kn.cm Y p = true ∧ Kn.at_ Y p = a := by
      have hr : ∀ k, k < nArcs Y → 1 ≤ Kn.arcN Y (ip Y k) ∧ Kn.arcN Y (ip Y k) ≤ nArcs Y := fun k hk => by
        rw [h.arcN (ip_pl hk)]; exact h.rng _ (h.liv (ip_pl hk))
      have P := inj_perm (l := List.range (nArcs Y)) List.nodup_range (f := fun k => Kn.arcN Y (ip Y k) - 1) (fun k hk => by
        rw [List.mem_range] at hk ⊢
        have := hr k hk; omega) fun j hj k hk e => by
        rw [List.mem_range] at hj hk
        have h1 := hr j hj
        have h2 := hr k hk
        have e : Kn.arcN Y (ip Y j) = Kn.arcN Y (ip Y k) := by omega
        rw [h.arcN (ip_pl hj), h.arcN (ip_pl hk)] at e
        refine ip_inj (h.uniq (ip_pl hj) (ip_pl hk) (by rw [ip_cm, ip_cm]) ?_)
        rw [h.at_ (ip_pl hj), h.at_ (ip_pl hk), e]
      obtain ⟨k, hk, e⟩ := List.mem_map.1 (P.mem_iff.2 (List.mem_range.2 (show a - 1 < nArcs Y by have := ha.1; have := ha.2; omega)))
      rw [List.mem_range] at hk
      refine ⟨ip Y k, ip_pl hk, ip_cm Y k, ?_⟩
      have h1 := hr k hk
      have := ha.1
      have e2 : g (Kn.arcN X (onP f (ip Y k))) = a := by rw [← h.arcN (ip_pl hk)]; omega
      rw [h.at_ (ip_pl hk), e2]
    obtain ⟨p, hp, hc, ha'⟩ := hin
    cases io with
    | true => exact ⟨p, hp, hc, ha'⟩
    | false =>
      obtain ⟨q, hq, e⟩ := h.back (h.tied.lv _ (h.liv hp))
      refine ⟨q, hq, ?_, ?_⟩
      · rw [h.cm hq, e, h.tied.op _ (h.liv hp), ← h.cm hp, hc]; rfl
      · rw [← ha', h.at_ hq, h.at_ hp, e, Int.ofNat_inj]
        exact ((h.same _ _ (h.liv hp) (h.tied.lv _ (h.liv hp))).2 (h.tied.eq _ (h.liv hp))).symm
theorem Cut.other (h : Cut X Y f g live E o) {p : Pl} (hp : isPl Y p) : onP f (other Y p) = o (onP f p) := by
  have hY := h.okY
  obtain ⟨q, hq, e⟩ := h.back (h.tied.lv _ (h.liv hp))
  rw [← e]
  congr 1
  refine h.uniq (hY.isPl_other hp) hq ?_ ?_
  · rw [hY.cm_other hp, h.cm hq, e, h.tied.op _ (h.liv hp), h.cm hp]
  · rw [← hY.arcN_eq (hY.isPl_other hp), hY.arc_other hp, h.at_ hq, h.arcN hp, e, Int.ofNat_inj]
    exact (h.same _ _ (h.liv hp) (h.tied.lv _ (h.liv hp))).2 (h.tied.eq _ (h.liv hp))
end

/- classes among more numbers, each new one of which is one by itself -/
theorem cl_emb {N M : Nat} {k : Nat → Nat} (hm : ∀ i j, i < j → j < M → k i < k j) (hk : ∀ i, i < M → k i < N) {R R' : Nat → Nat → Prop} (h : ∀ i j, i < M → j < M → (R (k i) (k j) ↔ R' i j)) (hs : ∀ y, (∀ i, i < M → k i ≠ y) → ∀ x, R x y → x = y) (hR : Equivalence R) :
    cl N R + M = cl M R' + N := by
  have hinj : ∀ x ∈ List.range M, ∀ y ∈ List.range M, k x = k y → x = y := fun x hx y hy e => by
    rw [List.mem_range] at hx hy
    rcases Nat.lt_trichotomy x y with c | c | c
    · have := hm x y c hy; omega
    · exact c
    · have := hm y x c hx; omega
  have hn1 := map_nodup (l := List.range M) List.nodup_range hinj
  have hn2 : ((List.range N).filter fun y => !((List.range M).map k).contains y).Nodup := List.nodup_range.sublist List.filter_sublist
  have P : ((List.range M).map k ++ (List.range N).filter fun y => !((List.range M).map k).contains y).Perm (List.range N) := by
    refine (List.perm_ext_iff_of_nodup ?_ List.nodup_range).2 fun y => ?_
    · refine List.nodup_append.2 ⟨hn1, hn2, fun a ha b hb e => ?_⟩
      subst e
      rw [List.mem_filter] at hb
      have := hb.2
      simp only [Bool.not_eq_true', List.contains_eq_mem, decide_eq_false_iff_not] at this
      exact this ha
    · rw [List.mem_append, List.mem_filter, List.mem_range]
      constructor
      · rintro (k1 | k1)
        · obtain ⟨i, hi, rfl⟩ := List.mem_map.1 k1
          exact hk i (List.mem_range.1 hi)
        · exact k1.1
      · intro hy
        by_cases c : y ∈ (List.range M).map k
        · exact .inl c
        · exact .inr ⟨hy, by simpa using c⟩
  have hl := P.length_eq
  rw [List.length_append, List.length_map, List.length_range, List.length_range] at hl
  have hc := P.countP_eq fun d => tr (Least R d)
  rw [List.countP_append, List.countP_map] at hc
  have h1 : (List.range M).countP ((fun d => tr (Least R d)) ∘ k) = cl M R' := by
    unfold cl
    refine countP_congr' fun z hz => tr_congr ?_
    rw [List.mem_range] at hz
    constructor
    · intro l e he r
      exact l (k e) (hm e z he hz) ((h e z (by omega) hz).2 r)
    · intro l e he r
      by_cases c : ∃ i, i < M ∧ k i = e
      · obtain ⟨i, hi, rfl⟩ := c
        have : i < z := by
          rcases Nat.lt_trichotomy i z with c | c | c
          · exact c
          · subst c; omega
          · have := hm z i c hi; omega
        exact l i this ((h i z hi hz).1 r)
      · have := hs e (fun i hi he => c ⟨i, hi, he⟩) (k z) (hR.symm r)
        omega
  have h2 : ((List.range N).filter fun y => !((List.range M).map k).contains y).countP (fun d => tr (Least R d)) = ((List.range N).filter fun y => !((List.range M).map k).contains y).length := by
    refine List.countP_eq_length.2 fun y hy => tr_iff.2 fun e he r => ?_
    rw [List.mem_filter] at hy
    have := hy.2
    simp only [Bool.not_eq_true', List.contains_eq_mem, decide_eq_false_iff_not] at this
    have := hs y (fun i hi c => this (List.mem_map.2 ⟨i, List.mem_range.2 hi, c⟩)) e r
    omega
  rw [h1, h2] at hc
  show (List.range N).countP _ + M = _
  omega
section
variable {N : Nat} {σ : Nat → Nat}
theorem Dis.len : ∀ {es : Prs}, Good N es → Dis es → cl N (Orb (mate es)) + es.length = N
  | [], _, _ => by
    show cl N (Orb fun x => x) + 0 = N
    have : cl N (Orb fun x : Nat => x) = cl N (fun x y => x = y) := cl_congr fun x y => (com_id_nil (x := x) (y := y))
    rw [this]
    unfold cl
    have hl : (List.range N).countP (fun d => tr (Least (fun x y : Nat => x = y) d)) = (List.range N).length := List.countP_eq_length.2 fun y _ => tr_iff.2 fun e he (r : e = y) => by omega
    rw [hl, List.length_range]; rfl
  | e :: es, hg, hd => by
    have i := Dis.len hg.tail hd.tail
    obtain ⟨h1, h2, h3⟩ := hg e (by simp)
    have hp : Pm N (phi (fun x => x) es) := phi_pm ⟨fun _ h => h, fun _ _ => rfl, fun _ _ h => h⟩ hg.tail
    have hno : ¬ Orb (mate es) e.1 e.2 := by
      rintro ⟨n, hn⟩
      have : ∀ n, it (mate es) n e.1 = e.1 := fun n => by
        induction n with
        | zero => rfl
        | succ n ih => rw [it, ih, mate_out hd.out.1]
      rw [this] at hn
      exact h3 hn
    have j := cl_join (f := mate es) hp h1 h2 hno
    show cl N (Orb fun x => swp e.1 e.2 (mate es x)) + (es.length + 1) = N
    omega
theorem Flat.same (h : Pm N σ) {es es' : Prs} (hg : Good N es) (hd : Dis es) (hg' : Good N es') (hd' : Dis es') (hm : ∀ x, mate es x = mate es' x) (hf : Flat N σ es) : Flat N σ es' := by
  have e : mate es = mate es' := funext hm
  have h1 := Dis.len hg hd
  have h2 := Dis.len hg' hd'
  rw [e] at h1
  refine hf.congr h hm (by omega) (fun d he => ?_) fun d he => ?_
  · rw [← (mate_pair hd he).1, hm]; exact com_mate h es' d.1
  · rw [← (mate_pair hd' he).1, ← hm]; exact com_mate h es d.1
end
end Go.Proofs.Ytlicglicfijelaa.Kn

/- A diagram whose crossings are some of another one's is planar, if what is left is: plain mathematics. -/
namespace Go.Proofs.Ytlicglicfijelaa.Kn

def kP (f : Nat → Nat) (z : Nat) : Nat := f (z / 4) * 4 + z % 4
theorem kP_pk {f : Nat → Nat} {p : Pl} (hp : p.2 < 4) : kP f (pk p) = pk (onP f p) := by
  unfold kP pk onP
  simp only
  rw [show (p.1 * 4 + p.2) / 4 = p.1 by omega, show (p.1 * 4 + p.2) % 4 = p.2 by omega]
theorem mate_map {M : Nat} {k : Nat → Nat} (hk : ∀ i j, i < M → j < M → k i = k j → i = j) : ∀ {es : Prs}, Good M es → ∀ {z : Nat}, z < M → mate (es.map fun e => (k e.1, k e.2)) (k z) = k (mate es z)
  | [], _, _, _ => rfl
  | e :: es, hg, z, hz => by
    have i := mate_map hk hg.tail hz
    have hw := hg.tail.mate_lt hz
    obtain ⟨h1, h2, _⟩ := hg e (by simp)
    show swp (k e.1) (k e.2) (mate (es.map fun e => (k e.1, k e.2)) (k z)) = k (swp e.1 e.2 (mate es z))
    rw [i]
    by_cases c : mate es z = e.1
    · rw [c, swp_a, swp_a]
    · by_cases d : mate es z = e.2
      · rw [d, swp_b, swp_b]
      · rw [swp_ne c d, swp_ne (fun e => c (hk _ _ hw h1 e)) fun e => d (hk _ _ hw h2 e)]
theorem orb_emb {M : Nat} {k : Nat → Nat} (hk : ∀ i j, i < M → j < M → k i = k j → i = j) {φ φ' : Nat → Nat} (hl : ∀ z, z < M → φ' z < M) (he : ∀ z, z < M → φ (k z) = k (φ' z)) {i j : Nat} (hi : i < M) (hj : j < M) : Orb φ (k i) (k j) ↔ Orb φ' i j := by
  have key : ∀ n, it φ' n i < M ∧ it φ n (k i) = k (it φ' n i) := fun n => by
    induction n with
    | zero => exact ⟨hi, rfl⟩
    | succ n ih => exact ⟨hl _ ih.1, by rw [it, ih.2, he _ ih.1]; rfl⟩
  constructor
  · rintro ⟨n, hn⟩
    rw [(key n).2] at hn
    exact ⟨n, hk _ _ (key n).1 hj hn⟩
  · rintro ⟨n, hn⟩
    exact ⟨n, by rw [(key n).2, hn]⟩
theorem orb_fix {N : Nat} {φ : Nat → Nat} (h : Pm N φ) {x y : Nat} (hy : φ y = y) (k : Orb φ x y) : x = y := by
  obtain ⟨n, hn⟩ := h.symm k
  have : ∀ n, it φ n y = y := fun n => by
    induction n with
    | zero => rfl
    | succ n ih => rw [it, ih, hy]
  rw [this] at hn
  exact hn.symm
section
variable {X Y : List Cr} {f g : Nat → Nat} {live : Pl → Prop} {E : Nat → Nat → Prop} {o : Pl → Pl}
theorem Cut.planar (h : Cut X Y f g live E o) {σ : Nat → Nat} {es : Prs} (hσ : Pm (4 * X.length) σ) (hg : Good (4 * X.length) es) (hd : Dis es) (hf : Flat (4 * X.length) σ es)
    (m1 : ∀ p, live p → mate es (pk p) = pk (o p)) (m2 : ∀ z, (∀ p, live p → pk p ≠ z) → mate es z = z)
    (s1 : ∀ p, live p → σ (pk p) = sig X.length (pk p)) (s2 : ∀ z, (∀ p, live p → pk p ≠ z) → σ z = z) : planarB Y = true := by
  have hY := h.okY
  have km : ∀ i j, i < j → j < 4 * Y.length → kP f i < kP f j := fun i j hij hj => by
    unfold kP
    by_cases c : i / 4 = j / 4
    · rw [c]; omega
    · have := h.mono (i / 4) (j / 4) (by omega) (by omega)
      omega
  have ki : ∀ i j, i < 4 * Y.length → j < 4 * Y.length → kP f i = kP f j → i = j := fun i j hi hj e => by
    rcases Nat.lt_trichotomy i j with c | c | c
    · have := km i j c hj; omega
    · exact c
    · have := km j i c hi; omega
  have kl : ∀ i, i < 4 * Y.length → kP f i < 4 * X.length := fun i hi => by
    have := h.lt (i / 4) (by omega)
    unfold kP; omega
  have kpl : ∀ i, i < 4 * Y.length → kP f i = pk (onP f (Kn.pl i)) := fun i _ => rfl
  have klive : ∀ i, i < 4 * Y.length → live (onP f (Kn.pl i)) := fun i hi => h.liv (isPl_pl hi)
  have kout : ∀ y, (∀ i, i < 4 * Y.length → kP f i ≠ y) → ∀ p, live p → pk p ≠ y := fun y hy p hp e => by
    obtain ⟨q, hq, rfl⟩ := h.back hp
    refine hy (pk q) (pk_lt hq) ?_
    rw [kP_pk hq.2, e]
  -- the pairs of the new one, among the old numbers
  have G := hY.ens_good
  have D := hY.ens_dis
  have g2 : Good (4 * X.length) ((ens Y).map fun e => (kP f e.1, kP f e.2)) := fun e he => by
    obtain ⟨d, hd, rfl⟩ := List.mem_map.1 he
    obtain ⟨h1, h2, h3⟩ := G d hd
    exact ⟨kl _ h1, kl _ h2, fun c => h3 (ki _ _ h1 h2 c)⟩
  have d2 : Dis ((ens Y).map fun e => (kP f e.1, kP f e.2)) := by
    unfold Dis at D ⊢
    rw [List.pairwise_map]
    refine List.Pairwise.imp_of_mem (fun {a b} ha hb k => ?_) D
    obtain ⟨a1, a2, _⟩ := G a ha
    obtain ⟨b1, b2, _⟩ := G b hb
    exact ⟨fun c => k.1 (ki _ _ a1 b1 c), fun c => k.2.1 (ki _ _ a1 b2 c), fun c => k.2.2.1 (ki _ _ a2 b1 c), fun c => k.2.2.2 (ki _ _ a2 b2 c)⟩
  have mo : ∀ y, (∀ i, i < 4 * Y.length → kP f i ≠ y) → mate ((ens Y).map fun e => (kP f e.1, kP f e.2)) y = y := fun y hy => mate_out (by
    rintro ⟨e, he, k⟩
    obtain ⟨d, hd, rfl⟩ := List.mem_map.1 he
    obtain ⟨h1, h2, h3⟩ := G d hd
    rcases k with k | k
    · exact hy _ h1 k.symm
    · exact hy _ h2 k.symm)
  have mi : ∀ z, z < 4 * Y.length → mate ((ens Y).map fun e => (kP f e.1, kP f e.2)) (kP f z) = kP f (mate (ens Y) z) := fun z hz => mate_map ki G hz
  have mm : ∀ y, mate es y = mate ((ens Y).map fun e => (kP f e.1, kP f e.2)) y := fun y => by
    by_cases c : ∃ i, i < 4 * Y.length ∧ kP f i = y
    · obtain ⟨i, hi, rfl⟩ := c
      rw [mi i hi]
      have hp := isPl_pl (X := Y) hi
      have e1 : mate (ens Y) i = pk (Kn.other Y (Kn.pl i)) := by
        have := hY.mate_pk hp
        rwa [show pk (Kn.pl i) = i by unfold pk Kn.pl; simp only; omega] at this
      rw [e1, kP_pk (hY.isPl_other hp).2, h.other hp, kpl i hi, m1 _ (klive i hi)]
    · have c' : ∀ i, i < 4 * Y.length → kP f i ≠ y := fun i hi e => c ⟨i, hi, e⟩
      rw [mo y c', m2 y (kout y c')]
  have F := hf.same hσ hg hd g2 d2 mm
  have se : ∀ z, z < 4 * Y.length → σ (kP f z) = kP f (sig Y.length z) := fun z hz => by
    rw [kpl z hz, s1 _ (klive z hz), ← kpl z hz]
    have h1 := kl z hz
    unfold sig
    rw [if_pos h1, if_pos hz]
    unfold kP
    rw [show (f (z / 4) * 4 + z % 4) / 4 = f (z / 4) by omega, show (f (z / 4) * 4 + z % 4) % 4 = z % 4 by omega, show (z / 4 * 4 + (z % 4 + 3) % 4) / 4 = z / 4 by omega, show (z / 4 * 4 + (z % 4 + 3) % 4) % 4 = (z % 4 + 3) % 4 by omega]
  have so : ∀ y, (∀ i, i < 4 * Y.length → kP f i ≠ y) → σ y = y := fun y hy => s2 y (kout y hy)
  have sl := (sig_pm Y.length).lt
  have hφ := phi_pm hσ g2
  have cF := cl_emb (k := kP f) km kl (R := Orb (phi σ ((ens Y).map fun e => (kP f e.1, kP f e.2)))) (R' := Orb (fac Y)) (fun i j hi hj =>
      orb_emb ki (φ' := fac Y) hY.fac_pm.lt (fun z hz => by
        show mate _ (σ (kP f z)) = kP f (mate (ens Y) (sig Y.length z))
        rw [se z hz, mi _ (sl z hz)]) hi hj)
    (fun y hy x r => orb_fix hφ (by
      show mate _ (σ y) = y
      rw [so y hy, mo y hy]) r) hφ.equiv
  have cV := cl_emb (k := kP f) km kl (R := Orb σ) (R' := Orb (sig Y.length)) (fun i j hi hj => orb_emb ki sl se hi hj)
    (fun y hy x r => orb_fix hσ (so y hy) r) hσ.equiv
  -- what hangs together
  have hE := com_equiv hσ ((ens Y).map fun e => (kP f e.1, kP f e.2))
  have hP := com_equiv (sig_pm Y.length) (ens Y)
  have hS : Equivalence (fun x y => x = y ∨ ∃ i j, i < 4 * Y.length ∧ j < 4 * Y.length ∧ kP f i = x ∧ kP f j = y ∧ pie Y i j) := by
    refine ⟨fun x => .inl rfl, fun {x y} k => ?_, fun {x y z} k l => ?_⟩
    · rcases k with k | ⟨i, j, h1, h2, h3, h4, h5⟩
      · exact .inl k.symm
      · exact .inr ⟨j, i, h2, h1, h4, h3, hP.symm h5⟩
    · rcases k with k | ⟨i, j, h1, h2, h3, h4, h5⟩
      · rw [k]; exact l
      · rcases l with l | ⟨i', j', k1, k2, k3, k4, k5⟩
        · rw [← l]; exact .inr ⟨i, j, h1, h2, h3, h4, h5⟩
        · have := ki j i' h2 k1 (h4.trans k3.symm)
          subst this
          exact .inr ⟨i, j', h1, k2, h3, k4, hP.trans h5 k5⟩
  have down : ∀ {x y}, com σ ((ens Y).map fun e => (kP f e.1, kP f e.2)) x y → x = y ∨ ∃ i j, i < 4 * Y.length ∧ j < 4 * Y.length ∧ kP f i = x ∧ kP f j = y ∧ pie Y i j := fun {x y} k => by
    refine com_least hS (fun z => ?_) (fun e he => ?_) k
    · by_cases c : ∃ i, i < 4 * Y.length ∧ kP f i = z
      · obtain ⟨i, hi, rfl⟩ := c
        exact .inr ⟨i, sig Y.length i, hi, sl i hi, rfl, (se i hi).symm, com_sub (Orb.one _ i)⟩
      · exact .inl (so z fun i hi e => c ⟨i, hi, e⟩).symm
    · obtain ⟨d, hd, rfl⟩ := List.mem_map.1 he
      obtain ⟨h1, h2, _⟩ := G d hd
      exact .inr ⟨d.1, d.2, h1, h2, rfl, rfl, com_pair (sig_pm Y.length) hd⟩
  have up : ∀ {i j}, pie Y i j → i < 4 * Y.length → j < 4 * Y.length → com σ ((ens Y).map fun e => (kP f e.1, kP f e.2)) (kP f i) (kP f j) := fun {i j} k hi hj => by
    have hT : Equivalence (fun i j => com σ ((ens Y).map fun e => (kP f e.1, kP f e.2)) (kP f i) (kP f j)) := ⟨fun x => hE.refl _, fun k => hE.symm k, fun k l => hE.trans k l⟩
    refine com_least hT (fun z => ?_) (fun e he => ?_) k
    · by_cases c : z < 4 * Y.length
      · show com σ _ (kP f z) (kP f (sig Y.length z))
        rw [← se z c]; exact com_sub (Orb.one _ _)
      · rw [(sig_pm Y.length).out z (by omega)]; exact hE.refl _
    · exact com_pair hσ (e := (kP f e.1, kP f e.2)) (List.mem_map.2 ⟨e, he, rfl⟩)
  have cC := cl_emb (k := kP f) km kl (R := com σ ((ens Y).map fun e => (kP f e.1, kP f e.2))) (R' := pie Y) (fun i j hi hj => by
      constructor
      · intro k
        rcases down k with k | ⟨i', j', h1, h2, h3, h4, h5⟩
        · rw [ki i j hi hj k]; exact hP.refl _
        · rw [← ki i' i h1 hi h3, ← ki j' j h2 hj h4]; exact h5
      · exact fun k => up k hi hj)
    (fun y hy x r => by
      rcases down r with k | ⟨i, j, _, h2, _, h4, _⟩
      · exact k
      · exact absurd h4 (hy j h2)) hE
  unfold Flat at F
  rw [List.length_map] at F
  have hl : (ens Y).length = nArcs Y := by unfold ens; rw [List.length_map, arcs_length]
  have a1 := hY.cl_faces
  have a2 := hY.cl_pieces
  have a3 := cl_sig Y.length
  rw [hY.planar_iff]
  unfold nArcs at hl
  omega
end
end Go.Proofs.Ytlicglicfijelaa.Kn

/- A diagram without some crossings, whose arcs are numbered anew: plain mathematics. -/
namespace Go.Proofs.Ytlicglicfijelaa.Kn

structure Rep (f : Nat → Nat) (E : Nat → Nat → Prop) : Prop where
  iff : ∀ a b, f a = f b ↔ E a b
  le : ∀ a, f a ≤ a
  idem : ∀ a, f (f a) = f a
  pos : ∀ a, 1 ≤ a → 1 ≤ f a
/- two classes made one: the lower number is kept -/
def joinF (f : Nat → Nat) (u v a : Nat) : Nat := if f a = max (f u) (f v) then min (f u) (f v) else f a
theorem Rep.id : Rep (fun a => a) (com (fun x => x) []) := ⟨fun _ _ => com_id_nil.symm, fun _ => Nat.le_refl _, fun _ => rfl, fun _ h => h⟩
theorem Rep.join {f : Nat → Nat} {E : Nat → Nat → Prop} (h : Rep f E) {u v : Nat} (hu : 1 ≤ u) (hv : 1 ≤ v) : Rep (joinF f u v) (mrg E u v) := by
  have p1 := h.pos u hu
  have p2 := h.pos v hv
  refine ⟨fun a b => ?_, fun a => ?_, fun a => ?_, fun a ha => ?_⟩
  · have key : joinF f u v a = joinF f u v b ↔ f a = f b ∨ (f a = f u ∧ f v = f b) ∨ (f a = f v ∧ f u = f b) := by
      unfold joinF
      by_cases c : f a = max (f u) (f v) <;> by_cases d : f b = max (f u) (f v)
      · rw [if_pos c, if_pos d]; omega
      · rw [if_pos c, if_neg d]; omega
      · rw [if_neg c, if_pos d]; omega
      · rw [if_neg c, if_neg d]; omega
    rw [key, h.iff, h.iff, h.iff, h.iff, h.iff]; rfl
  · unfold joinF
    have := h.le a
    split <;> omega
  · have i1 := h.idem a
    have i2 := h.idem u
    have i3 := h.idem v
    have m : min (f u) (f v) = f u ∨ min (f u) (f v) = f v := by omega
    unfold joinF
    by_cases c : f a = max (f u) (f v)
    · rw [if_pos c]
      rcases m with m | m
      · rw [m, i2]; split <;> omega
      · rw [m, i3]; split <;> omega
    · rw [if_neg c, i1, if_neg c]
  · unfold joinF
    have := h.pos a ha
    split <;> omega

def kept (n : Nat) (gone : Nat → Bool) : List Nat := (List.range n).filter fun c => !gone c
def leftB (X : List Cr) (f : Nat → Nat) (gone : Nat → Bool) (r : Nat) : Bool := (kept X.length gone).any fun c => (List.range 4).any fun s => decide (f (arcN X (c, s)) = r)
def rootB (X : List Cr) (f : Nat → Nat) (gone : Nat → Bool) (r : Nat) : Bool := decide (f r = r) && leftB X f gone r
def numF (X : List Cr) (f : Nat → Nat) (gone : Nat → Bool) (v : Nat) : Nat := (List.range v).countP fun a => rootB X f gone (a + 1)
def withL (X : List Cr) (f : Nat → Nat) (gone : Nat → Bool) : List Cr := (kept X.length gone).map fun c => (cr X c).ren fun a => numF X f gone (f a)
def ringN (X : List Cr) (f : Nat → Nat) (gone : Nat → Bool) : Nat := (List.range (nArcs X)).countP fun a => decide (f (a + 1) = a + 1) && !leftB X f gone (a + 1)
theorem mem_kept {n c : Nat} {gone : Nat → Bool} : c ∈ kept n gone ↔ c < n ∧ gone c = false := by unfold kept; simp
theorem leftB_iff {X : List Cr} {f : Nat → Nat} {gone : Nat → Bool} {r : Nat} : leftB X f gone r = true ↔ ∃ p, isPl X p ∧ gone p.1 = false ∧ f (arcN X p) = r := by
  unfold leftB
  simp only [List.any_eq_true, mem_kept, List.mem_range, decide_eq_true_eq]
  constructor
  · rintro ⟨c, ⟨h1, h2⟩, s, h3, h4⟩; exact ⟨(c, s), ⟨h1, h3⟩, h2, h4⟩
  · rintro ⟨p, ⟨h1, h3⟩, h2, h4⟩; exact ⟨p.1, ⟨h1, h2⟩, p.2, h3, h4⟩
section
variable {X : List Cr} {f : Nat → Nat} {gone : Nat → Bool}
theorem numF_succ (v : Nat) : numF X f gone (v + 1) = numF X f gone v + if rootB X f gone (v + 1) then 1 else 0 := by
  unfold numF
  rw [List.range_succ, List.countP_append, List.countP_cons, List.countP_nil]; simp
theorem numF_mono {v : Nat} : ∀ {w : Nat}, v ≤ w → numF X f gone v ≤ numF X f gone w
  | 0, h => by rw [show v = 0 by omega]; exact Nat.le_refl _
  | w + 1, h => by
    by_cases c : v = w + 1
    · rw [c]; exact Nat.le_refl _
    · have := numF_mono (v := v) (w := w) (by omega)
      rw [numF_succ]; omega
theorem numF_lt {v w : Nat} (h : v < w) (hw : rootB X f gone w = true) : numF X f gone v < numF X f gone w := by
  obtain ⟨u, rfl⟩ : ∃ u, w = u + 1 := ⟨w - 1, by omega⟩
  have := numF_mono (X := X) (f := f) (gone := gone) (v := v) (w := u) (by omega)
  rw [numF_succ, if_pos hw]; omega
theorem withL_len : (withL X f gone).length = (kept X.length gone).length := by unfold withL; rw [List.length_map]
theorem kept_lt {i : Nat} (h : i < (kept X.length gone).length) : (kept X.length gone).getD i 0 < X.length ∧ gone ((kept X.length gone).getD i 0) = false := by
  rw [List.getD_eq_getElem?_getD, List.getElem?_eq_getElem h]
  exact mem_kept.1 (List.getElem_mem h)
theorem withL_cr {i : Nat} (h : i < (kept X.length gone).length) : cr (withL X f gone) i = (cr X ((kept X.length gone).getD i 0)).ren fun a => numF X f gone (f a) := by
  have e1 : (kept X.length gone).getD i 0 = (kept X.length gone)[i] := by rw [List.getD_eq_getElem?_getD, List.getElem?_eq_getElem h]; rfl
  rw [e1]
  show (withL X f gone).getD i default = _
  unfold withL
  rw [List.getD_eq_getElem?_getD, List.getElem?_map, List.getElem?_eq_getElem h]; rfl
theorem kept_mono {n : Nat} {i j : Nat} (hij : i < j) (hj : j < (kept n gone).length) : (kept n gone).getD i 0 < (kept n gone).getD j 0 := by
  have h : (kept n gone).Pairwise (· < ·) := List.Pairwise.filter _ List.pairwise_lt_range
  rw [List.getD_eq_getElem?_getD, List.getElem?_eq_getElem (by omega), List.getD_eq_getElem?_getD, List.getElem?_eq_getElem hj]
  exact List.pairwise_iff_getElem.1 h i j (by omega) hj hij
theorem kept_at {n c : Nat} (h : c < n) (hg : gone c = false) : ∃ i, i < (kept n gone).length ∧ (kept n gone).getD i 0 = c := by
  obtain ⟨i, hi, e⟩ := List.mem_iff_getElem.1 (mem_kept.2 ⟨h, hg⟩)
  exact ⟨i, hi, by rw [List.getD_eq_getElem?_getD, List.getElem?_eq_getElem hi]; exact e⟩
theorem with_cut (hX : Ok X) {E : Nat → Nat → Prop} (hR : Rep f E) (hE : Equivalence E) {live : Pl → Prop} {o : Pl → Pl} (hT : Tied X live E o) (hl : ∀ p, live p ↔ isPl X p ∧ gone p.1 = false) :
    Cut X (withL X f gone) (fun i => (kept X.length gone).getD i 0) (fun a => numF X f gone (f a)) live E o := by
  have root : ∀ p, live p → rootB X f gone (f (arcN X p)) = true := fun p hp => by
    unfold rootB
    rw [Bool.and_eq_true]
    exact ⟨decide_eq_true (hR.idem _), leftB_iff.2 ⟨p, ((hl p).1 hp).1, ((hl p).1 hp).2, rfl⟩⟩
  have arcOf : ∀ p, live p → 1 ≤ f (arcN X p) ∧ f (arcN X p) ≤ nArcs X := fun p hp => by
    have := hX.isArc (hT.isP p hp)
    have h1 := hR.pos _ this.1
    have h2 := hR.le (arcN X p)
    have := this.2
    omega
  refine ⟨hX, fun i j hij hj => kept_mono hij (withL_len ▸ hj), fun i hi => (kept_lt (withL_len ▸ hi)).1, fun p hp => ?_, fun i hi => withL_cr (withL_len ▸ hi), hT, hE, fun p q hp hq => ?_, fun p hp => ?_⟩
  · rw [hl p]
    constructor
    · rintro ⟨h1, h2⟩
      obtain ⟨i, hi, e⟩ := kept_at h1.1 h2
      exact ⟨i, withL_len ▸ hi, e⟩
    · rintro ⟨i, hi, e⟩
      exact ⟨hp, by rw [← e]; exact (kept_lt (withL_len ▸ hi)).2⟩
  · rw [← hR.iff]
    constructor
    · intro e
      rcases Nat.lt_trichotomy (f (arcN X p)) (f (arcN X q)) with c | c | c
      · have := numF_lt c (root q hq); omega
      · exact c
      · have := numF_lt c (root p hp); omega
    · intro e; show numF X f gone _ = numF X f gone _; rw [e]
  · have a1 := arcOf p hp
    have h0 := numF_lt (v := 0) (by omega) (root p hp)
    refine ⟨by show 1 ≤ numF X f gone _; omega, ?_⟩
    have h1 := numF_mono (X := X) (f := f) (gone := gone) a1.2
    refine Nat.le_trans h1 ?_
    unfold numF
    rw [List.countP_eq_length_filter]
    have hn : (((List.range (nArcs X)).filter fun a => rootB X f gone (a + 1)).map (· + 1)).Nodup :=
      map_nodup (List.nodup_range.sublist List.filter_sublist) fun x _ y _ e => by
        have e : x + 1 = y + 1 := e
        omega
    have := nodup_le (m := (List.range (nArcs (withL X f gone))).map fun k => f (arcN X (onP (fun i => (kept X.length gone).getD i 0) (ip (withL X f gone) k)))) hn fun r hr => by
      obtain ⟨a, ha, rfl⟩ := List.mem_map.1 hr
      rw [List.mem_filter] at ha
      have hb := ha.2
      unfold rootB at hb
      rw [Bool.and_eq_true, leftB_iff] at hb
      obtain ⟨q, q1, q2, q3⟩ := hb.2
      have hq : live q := (hl q).2 ⟨q1, q2⟩
      have main : ∀ q, live q → cm X q = true → f (arcN X q) = a + 1 → a + 1 ∈ (List.range (nArcs (withL X f gone))).map fun k => f (arcN X (onP (fun i => (kept X.length gone).getD i 0) (ip (withL X f gone) k))) := fun q hq hc e => by
        obtain ⟨i, hi, ei⟩ := kept_at ((hl q).1 hq).1.1 ((hl q).1 hq).2
        have hp : isPl (withL X f gone) (i, q.2) := ⟨by rw [withL_len]; exact hi, ((hl q).1 hq).1.2⟩
        have e1 : cm (withL X f gone) (i, q.2) = true := by
          rw [← hc]; unfold cm; rw [withL_cr hi]; simp only; rw [ei]; rfl
        obtain ⟨k, hk, ek⟩ := ip_all hp e1
        refine List.mem_map.2 ⟨k, List.mem_range.2 hk, ?_⟩
        show f (arcN X (onP (fun i => (kept X.length gone).getD i 0) (ip (withL X f gone) k))) = a + 1
        rw [ek]
        show f (arcN X ((kept X.length gone).getD i 0, q.2)) = a + 1
        rw [ei]; exact e
      by_cases c : cm X q = true
      · exact main q hq c q3
      · refine main (o q) (hT.lv q hq) ?_ ?_
        · rw [hT.op q hq]; simpa using c
        · rw [(hR.iff _ _).2 (hE.symm (hT.eq q hq))]; exact q3
    rw [List.length_map, List.length_map, List.length_range] at this
    exact this
end
end Go.Proofs.Ytlicglicfijelaa.Kn

/- Strands as orbits; what is built of a walk; a planar knot's visits of a crossing lie at an odd and at an even place: plain mathematics. -/
namespace Go.Proofs.Ytlicglicfijelaa.Kn

section
variable {M : Nat} {f : Nat → Nat}
/- a ring, member by member -/
theorem ring_zero (f : Nat → Nat) {k : Nat} {seen : List Nat} {x : Nat} (h : 0 < (ring f k seen x).length) : (ring f k seen x)[0] = x := by
  cases k with
  | zero => simp [ring] at h
  | succ k =>
    by_cases c : x ∈ seen
    · simp [ring_seen f c] at h
    · simp [ring_new f c]
theorem ring_succ (f : Nat → Nat) : ∀ (k : Nat) {seen : List Nat} {x : Nat} {i : Nat} (h : i + 1 < (ring f k seen x).length), (ring f k seen x)[i + 1] = f ((ring f k seen x)[i]'(by omega))
  | 0, seen, x, i, h => by simp [ring] at h
  | k + 1, seen, x, i, h => by
    by_cases c : x ∈ seen
    · simp [ring_seen f c] at h
    · have e := ring_new f c (k := k)
      have h' : i < (ring f k (seen ++ [x]) (f x)).length := by
        have h2 := h
        rw [e] at h2; simpa using h2
      have e1 : (ring f (k + 1) seen x)[i + 1] = (ring f k (seen ++ [x]) (f x))[i] := by simp [e]
      rw [e1]
      cases i with
      | zero =>
        rw [ring_zero f h']
        simp [e]
      | succ i =>
        rw [ring_succ f k h']
        simp [e]
def Cyc (f : Nat → Nat) (r : List Nat) : Prop := ∀ i (h : i < r.length), r[(i + 1) % r.length]'(Nat.mod_lt _ (by omega)) = f r[i]
theorem ring_cyc (h : Pm M f) {k : Nat} {seen : List Nat} {x : Nat} (hn : seen.Nodup) (hs : ∀ y ∈ seen, y < M) (hc : ∀ y, f y ∈ seen → y ∈ seen) (hx : x < M) (hx' : x ∉ seen) (hk : M < k) : Cyc f (ring f k seen x) := by
  intro i hi
  by_cases c : i + 1 < (ring f k seen x).length
  · have e : (i + 1) % (ring f k seen x).length = i + 1 := Nat.mod_eq_of_lt c
    simp only [e]
    exact ring_succ f k c
  · have e0 : i + 1 = (ring f k seen x).length := by omega
    have e : (i + 1) % (ring f k seen x).length = 0 := by rw [e0, Nat.mod_self]
    simp only [e]
    have hm := fun y => ring_is h (y := y) hn hs hc hx hx' hk
    have hin : f ((ring f k seen x)[i]) ∈ ring f k seen x := (hm _).2 (((hm _).1 (List.getElem_mem hi)).trans (Orb.one f _))
    obtain ⟨j, hj, e1⟩ := List.getElem_of_mem hin
    cases j with
    | zero => exact e1
    | succ j =>
      rw [ring_succ f k hj] at e1
      have e2 := h.inj _ _ e1
      have hnd : (ring f k seen x).Nodup := (List.nodup_append.1 (ring_nodup f k (seen := seen) x hn)).2.1
      have := (List.getElem_inj hnd).1 e2
      omega
theorem rings_cyc (h : Pm M f) {N : Nat} (hN : M < N) : ∀ {ds seen : List Nat}, seen.Nodup → (∀ y ∈ seen, y < M) → (∀ y, f y ∈ seen → y ∈ seen) → (∀ d ∈ ds, d < M) → ∀ r ∈ rings f N seen ds, Cyc f r
  | [], seen, _, _, _, _, r, hr => by rw [rings_nil] at hr; cases hr
  | d :: ds, seen, hn, hs, hc, hd, r, hr => by
    have hd' : ∀ y ∈ ds, y < M := fun y hy => hd y (by simp [hy])
    by_cases c : d ∈ seen
    · rw [rings_seen f c] at hr
      exact rings_cyc h hN hn hs hc hd' r hr
    · have hdm := hd d (by simp)
      have hm := fun y => ring_is h (y := y) hn hs hc hdm c hN
      rw [rings_new f c] at hr
      rcases List.mem_cons.1 hr with rfl | hr
      · exact ring_cyc h hn hs hc hdm c hN
      · refine rings_cyc h hN (ring_nodup f N d hn) (fun y hy => ?_) (fun y hy => ?_) hd' r hr
        · rcases List.mem_append.1 hy with hy | hy
          · exact hs y hy
          · exact Orb.lt h hdm ((hm y).1 hy)
        · rcases List.mem_append.1 hy with hy | hy
          · exact List.mem_append.2 (.inl (hc y hy))
          · exact List.mem_append.2 (.inr ((hm y).2 (((hm _).1 hy).trans (h.back y))))
end

/- strands -/
instance (X : List Cr) (a : Nat) : Decidable (isArc X a) := inferInstanceAs (Decidable (_ ∧ _))
def nxt (X : List Cr) (a : Nat) : Nat := if isArc X a then nextA X a else a
theorem comes_opp (x : Cr) {s : Nat} (hs : s < 4) : x.comes ((s + 2) % 4) = !x.comes s := by
  unfold Cr.comes over
  cases x.p <;> match s, hs with
    | 0, _ => rfl
    | 1, _ => rfl
    | 2, _ => rfl
    | 3, _ => rfl
section
variable {X : List Cr}
theorem cm_opp {p : Pl} (hp : isPl X p) : cm X (p.1, (p.2 + 2) % 4) = !cm X p := comes_opp _ hp.2
theorem Ok.next_inj (h : Ok X) {a b : Nat} (ha : Kn.isArc X a) (hb : Kn.isArc X b) (e : nextA X a = nextA X b) : a = b := by
  have p1 := h.isPl_end (io := true) ha
  have p2 := h.isPl_end (io := true) hb
  have q1 := isPl_turn p1 2
  have q2 := isPl_turn p2 2
  have e1 : at_ X ((endP X true a).1, ((endP X true a).2 + 2) % 4) = at_ X ((endP X true b).1, ((endP X true b).2 + 2) % 4) := by
    rw [← h.arcN_eq q1, ← h.arcN_eq q2]
    exact congrArg _ e
  have e2 := h.uniq _ _ q1 q2 (by rw [cm_opp p1, cm_opp p2, h.cm_end ha, h.cm_end hb]) e1
  injection e2 with e3 e4
  have e5 : endP X true a = endP X true b := Prod.ext e3 (by have := p1.2; have := p2.2; omega)
  rw [← h.arc_end (io := true) ha, e5, h.arc_end hb]
theorem Ok.nxt_pm (h : Ok X) : Pm (nArcs X + 1) (nxt X) := by
  have key : ∀ x, Kn.isArc X x → Kn.isArc X (nxt X x) := fun x hx => by
    unfold nxt; rw [if_pos hx]; exact h.isArc_next hx
  refine ⟨fun x hx => ?_, fun x hx => ?_, fun x y e => ?_⟩
  · by_cases c : Kn.isArc X x
    · have := (key x c).2; omega
    · unfold nxt; rw [if_neg c]; exact hx
  · unfold nxt; rw [if_neg (fun c => by have := c.2; omega)]
  · by_cases c : Kn.isArc X x
    · by_cases d : Kn.isArc X y
      · unfold nxt at e; rw [if_pos c, if_pos d] at e; exact h.next_inj c d e
      · have := key x c
        rw [e] at this
        unfold nxt at this; rw [if_neg d] at this
        exact absurd this d
    · by_cases d : Kn.isArc X y
      · have := key y d
        rw [← e] at this
        unfold nxt at this; rw [if_neg c] at this
        exact absurd this c
      · unfold nxt at e; rw [if_neg c, if_neg d] at e; exact e
theorem Ok.strands_nxt (h : Ok X) : rings (nxt X) (nArcs X + 1 + 1) [] (arcs X) = strandsL X := by
  have hall : ∀ x ∈ arcs X, nextA X x ∈ arcs X := fun x hx => mem_arcs.2 (h.isArc_next (mem_arcs.1 hx))
  have h1 := rings_map (nx := nextA X) (ny := nxt X) (g := fun a => a) (all := arcs X) (fun _ _ _ _ e => e) hall (fun x hx => by unfold nxt; rw [if_pos (mem_arcs.1 hx)]) (nArcs X + 1 + 1) (ds := arcs X) (seen := []) (fun y hy => by cases hy) (fun y hy => hy)
  have h2 : ∀ {N N' : Nat} {ds seen : List Nat}, nArcs X < N → nArcs X < N' → seen.Nodup → (∀ y ∈ seen, y ∈ arcs X) → (∀ y ∈ ds, y ∈ arcs X) → rings (nextA X) N seen ds = rings (nextA X) N' seen ds := by
    have hr : ∀ {k k' : Nat} {seen : List Nat} {x : Nat}, nArcs X < k + seen.length → nArcs X < k' + seen.length → seen.Nodup → (∀ y ∈ seen, y ∈ arcs X) → x ∈ arcs X → ring (nextA X) k seen x = ring (nextA X) k' seen x := by
      intro k
      induction k with
      | zero =>
        intro k' seen x h1 _ h3 h4 _
        have := nodup_le h3 h4
        rw [arcs_length] at this
        omega
      | succ k ih =>
        intro k' seen x h1 h2 h3 h4 h5
        by_cases c : x ∈ seen
        · rw [ring_seen _ c, ring_seen _ c]
        · cases k' with
          | zero =>
            have := nodup_le h3 h4
            rw [arcs_length] at this
            omega
          | succ k' =>
            rw [ring_new _ c, ring_new _ c]
            rw [ih (k' := k') (by simp; omega) (by simp; omega) (nodup_snoc h3 c) (fun y hy => by
              rcases List.mem_append.1 hy with hy | hy
              · exact h4 y hy
              · rw [List.mem_singleton] at hy; exact hy ▸ h5) (hall x h5)]
    intro N N' ds
    induction ds with
    | nil => intro seen _ _ _ _ _; rw [rings_nil, rings_nil]
    | cons d ds ih =>
      intro seen h1 h2 h3 h4 h5
      have hd := h5 d (by simp)
      by_cases c : d ∈ seen
      · rw [rings_seen _ c, rings_seen _ c]
        exact ih h1 h2 h3 h4 fun y hy => h5 y (by simp [hy])
      · rw [rings_new _ c, rings_new _ c, hr (k := N) (k' := N') (by omega) (by omega) h3 h4 hd]
        congr 1
        refine ih h1 h2 (ring_nodup _ _ d h3) (fun y hy => ?_) fun y hy => h5 y (by simp [hy])
        rcases List.mem_append.1 hy with hy | hy
        · exact h4 y hy
        · exact ring_sub _ hall _ _ hd y hy
  have h3 : (rings (nextA X) (nArcs X + 1 + 1) [] (arcs X)).map (List.map fun a => a) = rings (nextA X) (nArcs X + 1 + 1) [] (arcs X) := by
    conv => rhs; rw [← List.map_id (rings (nextA X) (nArcs X + 1 + 1) [] (arcs X))]
    refine List.map_congr_left fun l _ => ?_
    simp
  rw [List.map_nil, List.map_id', h3] at h1
  rw [h1]
  exact h2 (by omega) (by omega) (by simp) (fun y hy => by cases hy) (fun y hy => hy)
theorem arcs_lt {y : Nat} (hy : y ∈ arcs X) : y < nArcs X + 1 := by have := (mem_arcs.1 hy).2; omega
theorem strands_arc (h : Ok X) {r : List Nat} (hr : r ∈ strandsL X) {x : Nat} (hx : x ∈ r) : Kn.isArc X x :=
  mem_arcs.1 ((strands_perm h).mem_iff.1 (List.mem_flatten.2 ⟨r, hr, hx⟩))
theorem Ok.strands_cyc (h : Ok X) : ∀ r ∈ strandsL X, Cyc (nextA X) r := by
  intro r hr i hi
  have h1 : Cyc (nxt X) r := by
    have hr' := hr
    rw [← h.strands_nxt] at hr'
    exact rings_cyc h.nxt_pm (by omega) (by simp) (fun y hy => by cases hy) (fun y hy => by cases hy) (fun y hy => arcs_lt hy) r hr'
  have h2 := h1 i hi
  rw [h2]
  unfold nxt
  rw [if_pos (strands_arc h hr (List.getElem_mem hi))]
theorem strands_ne (X : List Cr) : ∀ r ∈ strandsL X, r ≠ [] := rings_ne (nextA X) (by omega) (arcs X) []

/- new numbers of arcs: along the strands -/
def along (X : List Cr) (a : Nat) : Nat := (strandsL X).flatten.idxOf a + 1
end
end Go.Proofs.Ytlicglicfijelaa.Kn

/- A kink taken out, a face of two sides taken out: what is left may be, and is planar: plain mathematics. -/
namespace Go.Proofs.Ytlicglicfijelaa.Kn

section
variable {X : List Cr}
theorem Ok.flat (h : Ok X) (hp : planarB X = true) : Flat (4 * X.length) (sig X.length) (ens X) := by
  have h0 := h.planar_iff.1 hp
  have a1 := h.cl_faces
  have a2 := h.cl_pieces
  have a3 := cl_sig X.length
  have hl : (ens X).length = nArcs X := by unfold ens; rw [List.length_map, arcs_length]
  unfold nArcs at hl
  unfold Flat
  have a1 : cl (4 * X.length) (Orb (phi (sig X.length) (ens X))) = (facesL X).length := a1
  have a2 : cl (4 * X.length) (com (sig X.length) (ens X)) = (piecesL X).length := a2
  omega
theorem Ok.mate_free (h : Ok X) {p : Pl} (hp : isPl X p) : mate (ens X) (pk p) ≠ pk p := fun e => by
  rw [h.mate_pk hp] at e
  have := pk_inj (h.isPl_other hp).2 hp.2 e
  have h1 := h.cm_other hp
  rw [this] at h1
  cases hh : cm X p <;> simp [hh] at h1
theorem Ok.mate_big (h : Ok X) {z : Nat} (hz : 4 * X.length ≤ z) : mate (ens X) z = z := mate_out (by
  rintro ⟨e, he, k⟩
  obtain ⟨h1, h2, _⟩ := h.ens_good e he
  omega)
theorem mem_four {c s z : Nat} (hs : s < 4) : z ∈ [pk (c, s), pk (c, (s + 1) % 4), pk (c, (s + 2) % 4), pk (c, (s + 3) % 4)] ↔ z / 4 = c := by
  unfold pk
  simp only [List.mem_cons, List.not_mem_nil, or_false]
  omega
theorem four_nodup {c s : Nat} (hs : s < 4) : [pk (c, s), pk (c, (s + 1) % 4), pk (c, (s + 2) % 4), pk (c, (s + 3) % 4)].Nodup := by
  unfold pk
  simp only [List.nodup_cons, List.mem_cons, List.not_mem_nil, or_false, not_or, List.nodup_nil, and_true, not_false_eq_true]
  omega
theorem four_ne {c s : Nat} (hs : s < 4) : ((c, s) : Pl) ≠ (c, (s + 1) % 4) ∧ ((c, s) : Pl) ≠ (c, (s + 2) % 4) ∧ ((c, s) : Pl) ≠ (c, (s + 3) % 4) ∧ ((c, (s + 1) % 4) : Pl) ≠ (c, (s + 2) % 4) ∧ ((c, (s + 1) % 4) : Pl) ≠ (c, (s + 3) % 4) ∧ ((c, (s + 2) % 4) : Pl) ≠ (c, (s + 3) % 4) := by
  simp only [ne_eq, Prod.mk.injEq, true_and]
  omega
theorem of_four {c s : Nat} {p : Pl} (hs : s < 4) (hp : p.2 < 4) : p.1 = c ↔ p = (c, s) ∨ p = (c, (s + 1) % 4) ∨ p = (c, (s + 2) % 4) ∨ p = (c, (s + 3) % 4) := by
  obtain ⟨a, b⟩ := p
  simp only [Prod.mk.injEq] at hp ⊢
  omega
theorem sig4 {n c s : Nat} (hc : c < n) (hs : s < 4) : sig n (pk (c, s)) = pk (c, (s + 3) % 4) ∧ sig n (pk (c, (s + 3) % 4)) = pk (c, (s + 2) % 4) ∧ sig n (pk (c, (s + 2) % 4)) = pk (c, (s + 1) % 4) ∧ sig n (pk (c, (s + 1) % 4)) = pk (c, s) := by
  refine ⟨sig_pk hc hs, ?_, ?_, ?_⟩ <;> rw [sig_pk (p := (c, _)) hc (Nat.mod_lt _ (by omega))] <;> simp only <;> congr 2 <;> omega
abbrev only (c : Nat) : Nat → Bool := fun d => decide (d = c)
end
end Go.Proofs.Ytlicglicfijelaa.Kn

/- The letters of a diagram; of a planar one the signs of two words cancel, whatever is smoothed: plain mathematics. -/
namespace Go.Proofs.Ytlicglicfijelaa.Kn

/- the letter of a place at which a strand comes in -/
def lt (p : Pl) : Nat := 2 * p.1 + if p.2 = 0 then 0 else 1
def outA (X : List Cr) (l : Nat) : Pl := ((ip X l).1, ((ip X l).2 + 2) % 4)
def nxA (X : List Cr) (l : Nat) : Nat := if l < 2 * X.length then lt (other X (outA X l)) else l
section
variable {X : List Cr}
theorem ip_one (X : List Cr) (l : Nat) : (ip X l).1 = l / 2 := rfl
theorem ip_even {l : Nat} (h : l % 2 = 0) : ip X l = (l / 2, 0) := by unfold ip; rw [if_pos h]
theorem ip_odd {l : Nat} (h : l % 2 = 1) : ip X l = (l / 2, over (cr X (l / 2)).p) := by unfold ip; rw [if_neg (by omega)]
theorem lt_ip (l : Nat) : lt (ip X l) = l := by
  unfold lt
  rcases Nat.mod_two_eq_zero_or_one l with h | h
  · rw [ip_even h]; simp only [if_true]; omega
  · rw [ip_odd h]; simp only [if_neg (over_pos _)]; omega
theorem ip_lt {p : Pl} (hc : cm X p = true) : ip X (lt p) = p := by
  have h1 := cm_in hc
  obtain ⟨c, s⟩ := p
  unfold lt
  rcases h1 with h | h
  · simp only at h
    subst h
    simp only [if_true]
    rw [ip_even (by omega)]
    congr 1; omega
  · simp only at h
    have hne : s ≠ 0 := by rw [h]; exact over_pos _
    simp only [if_neg hne]
    rw [ip_odd (by omega)]
    have e : (2 * c + 1) / 2 = c := by omega
    rw [e, ← h]
where
  cm_in {p : Pl} (hc : cm X p = true) : p.2 = 0 ∨ p.2 = over (cr X p.1).p := by
    unfold cm Cr.comes at hc
    simpa using hc
theorem lt_lt {p : Pl} (hp : isPl X p) : lt p < 2 * X.length := by
  have := hp.1
  unfold lt; split <;> omega
theorem ip_isPl {l : Nat} (h : l < 2 * X.length) : isPl X (ip X l) := ip_pl h
theorem outA_pl {l : Nat} (h : l < 2 * X.length) : isPl X (outA X l) := isPl_turn (ip_isPl h) 2
theorem outA_cm {l : Nat} (h : l < 2 * X.length) : cm X (outA X l) = false := by
  have := cm_opp (ip_isPl h)
  rw [ip_cm] at this
  exact this
theorem Ok.ip_nx (h : Ok X) {l : Nat} (hl : l < 2 * X.length) : ip X (nxA X l) = other X (outA X l) := by
  unfold nxA
  rw [if_pos hl]
  refine ip_lt ?_
  rw [h.cm_other (outA_pl hl), outA_cm hl]; rfl
theorem Ok.nx_pm (h : Ok X) : Pm (2 * X.length) (nxA X) := by
  refine ⟨fun x hx => ?_, fun x hx => ?_, fun x y e => ?_⟩
  · unfold nxA; rw [if_pos hx]; exact lt_lt (h.isPl_other (outA_pl hx))
  · unfold nxA; rw [if_neg (by omega)]
  · have hlt : ∀ x, x < 2 * X.length → nxA X x < 2 * X.length := fun x hx => by
      unfold nxA; rw [if_pos hx]; exact lt_lt (h.isPl_other (outA_pl hx))
    by_cases hx : x < 2 * X.length
    · by_cases hy : y < 2 * X.length
      · have h1 := h.ip_nx hx
        rw [e, h.ip_nx hy] at h1
        have h2 := h.other_other (outA_pl hx)
        rw [← h1, h.other_other (outA_pl hy)] at h2
        have h3 := congrArg Prod.fst h2
        have h4 := congrArg Prod.snd h2
        unfold outA at h3 h4
        simp only at h3 h4
        have e5 : ip X y = ip X x := Prod.ext h3 (by have := (ip_isPl hx).2; have := (ip_isPl hy).2; omega)
        exact (ip_inj e5).symm
      · have := hlt x hx
        rw [e] at this
        unfold nxA at this; rw [if_neg hy] at this
        exact absurd this hy
    · by_cases hy : y < 2 * X.length
      · have := hlt y hy
        rw [← e] at this
        unfold nxA at this; rw [if_neg hx] at this
        exact absurd this hx
      · unfold nxA at e; rw [if_neg hx, if_neg hy] at e; exact e
/- a diagram's letters -/
def Ok.ar (h : Ok X) (L : Nat) : Ar := ⟨X.length, nxA X, fun c => (cr X c).p, L, h.nx_pm⟩
theorem over_cases (b : Bool) : (b = true ∧ over b = 3) ∨ (b = false ∧ over b = 1) := by cases b <;> simp [over]
theorem lz_sub (f g : Nat → Int) : ∀ l : List Nat, lz l (fun d => f d - g d) = lz l f - lz l g
  | [] => rfl
  | a :: l => by rw [lz_cons, lz_cons, lz_cons, lz_sub f g l]; omega
/- numbers on faces, whose differences tell where the arcs of w2 lie -/
def wz (w2 : List Nat) (l : Nat) : Int := if l ∈ w2 then 1 else 0
def zP (X : List Cr) (w2 : List Nat) (p : Pl) : Int := if cm X p then wz w2 (lt p) else -wz w2 (lt (other X p))
theorem Ok.face_pot (h : Ok X) (hp : planarB X = true) (L : Nat) {S : St} {w2 : List Nat} (hc : ∀ x, x < 2 * X.length → ((h.ar L).nS S x ∈ w2 ↔ x ∈ w2)) :
    ∃ cp : Pl → Int, (∀ p, isPl X p → cp (other X (p.1, (p.2 + 3) % 4)) = cp p) ∧ ∀ p, isPl X p → cp p - cp (other X p) = zP X w2 p := by
  have hzo : ∀ p, isPl X p → zP X w2 p = -zP X w2 (other X p) := fun p hp => by
    unfold zP
    rw [h.cm_other hp, h.other_other hp]
    cases cm X p <;> simp
  obtain ⟨z, hz⟩ : ∃ z : Nat → Int, ∀ d, z d = if d < 4 * X.length then zP X w2 (pl d) else 0 := ⟨_, fun _ => rfl⟩
  have hzp : ∀ p, isPl X p → z (pk p) = zP X w2 p := fun p hp => by
    rw [hz, if_pos (pk_lt hp), pl_pk hp.2]
  have in_z : ∀ l, l < 2 * X.length → zP X w2 (ip X l) = wz w2 l := fun l hl => by
    unfold zP
    rw [ip_cm, lt_ip]; rfl
  have out_z : ∀ l, l < 2 * X.length → zP X w2 (outA X l) = -wz w2 (nxA X l) := fun l hl => by
    unfold zP
    rw [outA_cm hl, ← h.ip_nx hl, lt_ip]; rfl
  have blk0 : ∀ c, c < X.length → zP X w2 (c, 0) + zP X w2 (c, 1) + zP X w2 (c, 2) + zP X w2 (c, 3) = 0 := fun c hc' => by
    have e0 : ip X (2 * c) = (c, 0) := by rw [ip_even (by omega)]; congr 1; omega
    have e1 : ip X (2 * c + 1) = (c, over (cr X c).p) := by
      rw [ip_odd (by omega)]
      have : (2 * c + 1) / 2 = c := by omega
      rw [this]
    have o0 : outA X (2 * c) = (c, 2) := by unfold outA; rw [e0]; rfl
    have a1 := in_z (2 * c) (by omega)
    have a2 := in_z (2 * c + 1) (by omega)
    have a3 := out_z (2 * c) (by omega)
    have a4 := out_z (2 * c + 1) (by omega)
    rw [e0] at a1
    rw [e1] at a2
    rw [o0] at a3
    have o1 : outA X (2 * c + 1) = (c, (over (cr X c).p + 2) % 4) := by unfold outA; rw [e1]
    rw [o1] at a4
    have sum : wz w2 (2 * c) + wz w2 (2 * c + 1) = wz w2 (nxA X (2 * c)) + wz w2 (nxA X (2 * c + 1)) := by
      have b0 := hc (2 * c) (by omega)
      have b1 := hc (2 * c + 1) (by omega)
      unfold Ar.nS at b0 b1
      have d0 : (2 * c) / 2 = c := by omega
      have d1 : (2 * c + 1) / 2 = c := by omega
      have m0 : mt (2 * c) = 2 * c + 1 := by unfold mt; rw [if_pos (by omega)]
      have m1 : mt (2 * c + 1) = 2 * c := by unfold mt; rw [if_neg (by omega)]; omega
      rw [d0, m0] at b0
      rw [d1, m1] at b1
      cases hS : S c with
      | true =>
        rw [hS, if_pos ⟨rfl, by show 2 * c < 2 * X.length; omega⟩] at b0
        rw [hS, if_pos ⟨rfl, by show 2 * c + 1 < 2 * X.length; omega⟩] at b1
        have c0 : nxA X (2 * c + 1) ∈ w2 ↔ 2 * c ∈ w2 := b0
        have c1 : nxA X (2 * c) ∈ w2 ↔ 2 * c + 1 ∈ w2 := b1
        unfold wz
        simp only [c0, c1]
        omega
      | false =>
        rw [hS, if_neg (by simp)] at b0 b1
        have c0 : nxA X (2 * c) ∈ w2 ↔ 2 * c ∈ w2 := b0
        have c1 : nxA X (2 * c + 1) ∈ w2 ↔ 2 * c + 1 ∈ w2 := b1
        unfold wz
        simp only [c0, c1]
    rcases over_cases (cr X c).p with ⟨_, ho⟩ | ⟨_, ho⟩
    · rw [ho] at a2 a4
      simp only [show (3 + 2) % 4 = 1 by omega] at a4
      rw [a1, a2, a3, a4]; omega
    · rw [ho] at a2 a4
      simp only [show (1 + 2) % 4 = 3 by omega] at a4
      rw [a1, a2, a3, a4]; omega
  obtain ⟨col, c1, c2⟩ := colourZ (sig_pm X.length) h.ens_good h.ens_dis (h.flat hp) (z := z)
    ⟨fun d hd => by
      have hd : d < 4 * X.length := Classical.byContradiction fun k => hd (by rw [hz, if_neg k])
      obtain ⟨e, he, k⟩ := h.mem_ens (isPl_pl hd)
      refine ⟨e, he, ?_⟩
      have : pk (pl d) = d := by unfold pk pl; simp only; omega
      rw [this] at k
      exact k.elim (fun k => .inl k.1) fun k => .inr k.1,
     fun e he => by
      obtain ⟨a, ha, rfl⟩ := List.mem_map.1 he
      have ha := mem_arcs.1 ha
      have p1 := h.isPl_end (io := true) ha
      have p2 := h.isPl_end (io := false) ha
      show z (pk _) = -z (pk _)
      rw [hzp _ p1, hzp _ p2, hzo _ p1]
      have : other X (endP X true a) = endP X false a := by
        unfold other
        rw [h.cm_end ha, h.arc_end ha]; rfl
      rw [this]⟩
    (fun K hK => by
      have key : ∀ m, m ≤ X.length → sz (4 * m) (fun d => K d * z d) = 0 := by
        intro m
        induction m with
        | zero => intro _; rfl
        | succ m ih =>
          intro hm
          have h1 := ih (by omega)
          have h2 : ∀ s, s < 4 → K (m * 4 + s) = K (m * 4) := fun s hs => by
            have : Orb (sig X.length) (m * 4) (m * 4 + s) := (sig_orb (by omega)).2 (by omega)
            exact this.ind (P := fun y => K y = K (m * 4)) (fun x hx => (hK x).trans hx) rfl
          have h3 : ∀ s, s < 4 → z (m * 4 + s) = zP X w2 (m, s) := fun s hs => by
            have := hzp (m, s) ⟨hm, hs⟩
            exact this
          have h4 := blk0 m hm
          unfold sz at h1 ⊢
          rw [range_blk, lz_app, h1]
          unfold blk
          rw [lz_cons, lz_cons, lz_cons, lz_cons]
          have z0 := h3 0 (by omega)
          rw [Nat.add_zero] at z0
          rw [h2 1 (by omega), h2 2 (by omega), h2 3 (by omega), z0, h3 1 (by omega), h3 2 (by omega), h3 3 (by omega)]
          have : K (m * 4) * (zP X w2 (m, 0) + zP X w2 (m, 1) + zP X w2 (m, 2) + zP X w2 (m, 3)) = 0 := by rw [h4]; simp
          simp only [Int.mul_add] at this
          show 0 + (_ + (_ + (_ + (_ + lz [] _)))) = _
          have : lz [] (fun d => K d * z d) = 0 := rfl
          omega
      exact key X.length (Nat.le_refl _))
  have ho : ∀ p, isPl X p → col (pk p) - col (pk (other X p)) = zP X w2 p := fun p hp => by
    obtain ⟨e, he, k⟩ := h.mem_ens hp
    have h1 := c2 e he
    rcases k with ⟨k1, k2⟩ | ⟨k1, k2⟩
    · rw [← k1, ← k2, hzp p hp] at h1; exact h1
    · rw [← k1, ← k2, hzp _ (h.isPl_other hp)] at h1
      rw [hzo p hp]; omega
  refine ⟨fun p => col (pk p), fun p hp => ?_, ho⟩
  have h1 := c1 (pk p)
  have h0 : phi (sig X.length) (ens X) (pk p) = pk (other X (p.1, (p.2 + 3) % 4)) := h.fac_pk hp
  rw [h0] at h1
  exact h1
/- along a word: what the number of the face at its side turns by -/
def stepZ (X : List Cr) (S : St) (w2 : List Nat) (x : Nat) : Int := if crB S w2 x then (if (if x % 2 = 1 then (cr X (x / 2)).p else !(cr X (x / 2)).p) then -1 else 1) else 0
theorem Ok.face_step (h : Ok X) (L : Nat) {S : St} {w2 : List Nat} (hc : ∀ x, x < 2 * X.length → ((h.ar L).nS S x ∈ w2 ↔ x ∈ w2)) {cp : Pl → Int}
    (c1 : ∀ p, isPl X p → cp (other X (p.1, (p.2 + 3) % 4)) = cp p) (c2 : ∀ p, isPl X p → cp p - cp (other X p) = zP X w2 p) {x : Nat} (hx : x < 2 * X.length) :
    cp (ip X ((h.ar L).nS S x)) - cp (ip X x) = stepZ X S w2 x := by
  have in_z : ∀ l, l < 2 * X.length → zP X w2 (ip X l) = wz w2 l := fun l hl => by
    unfold zP
    rw [ip_cm, lt_ip]; rfl
  have out_z : ∀ l, l < 2 * X.length → zP X w2 (outA X l) = -wz w2 (nxA X l) := fun l hl => by
    unfold zP
    rw [outA_cm hl, ← h.ip_nx hl, lt_ip]; rfl
  obtain ⟨c, hcx⟩ : ∃ c, c = x / 2 := ⟨_, rfl⟩
  have hcl : c < X.length := by omega
  have mx : mt x < 2 * X.length := mt_lt.2 hx
  -- from place to place at a crossing
  have turn : ∀ s, s < 4 → cp (c, (s + 3) % 4) - cp (c, s) = zP X w2 (c, (s + 3) % 4) := fun s hs => by
    have a1 := c1 (c, s) ⟨hcl, hs⟩
    have a2 := c2 (c, (s + 3) % 4) ⟨hcl, Nat.mod_lt _ (by omega)⟩
    simp only at a1
    omega
  have out_cp : ∀ s, s < 4 → cp (other X (c, s)) = cp (c, (s + 1) % 4) := fun s hs => by
    have a1 := c1 (c, (s + 1) % 4) ⟨hcl, Nat.mod_lt _ (by omega)⟩
    simp only at a1
    rw [show ((s + 1) % 4 + 3) % 4 = s by omega] at a1
    exact a1
  have ipn : ∀ l, l < 2 * X.length → ip X (nxA X l) = other X (outA X l) := fun l hl => h.ip_nx hl
  have close : wz w2 ((h.ar L).nS S (mt x)) = wz w2 (mt x) := by
    unfold wz
    simp only [hc (mt x) mx]
  cases hS : S c with
  | false =>
    have e : (h.ar L).nS S x = nxA X x := by
      show (if S (x / 2) = true ∧ x < 2 * X.length then nxA X (mt x) else nxA X x) = _
      rw [← hcx, hS, if_neg (by simp)]
    have e' : (h.ar L).nS S (mt x) = nxA X (mt x) := by
      show (if S (mt x / 2) = true ∧ mt x < 2 * X.length then nxA X (mt (mt x)) else nxA X (mt x)) = _
      rw [mt_div, ← hcx, hS, if_neg (by simp)]
    rw [e'] at close
    have hcr : crB S w2 x = decide (mt x ∈ w2) := by unfold crB; rw [← hcx, hS]; simp
    rw [e, ipn x hx]
    unfold stepZ
    rw [hcr, ← hcx]
    have a3 := in_z (mt x) mx
    have a4 := out_z (mt x) mx
    rw [close] at a4
    rcases Nat.mod_two_eq_zero_or_one x with m | m
    · have e0 : ip X x = (c, 0) := by rw [ip_even m, hcx]
      have m1 : mt x % 2 = 1 := by rw [mt_mod]; omega
      have e1 : ip X (mt x) = (c, over (cr X c).p) := by rw [ip_odd m1, mt_div, hcx]
      have o0 : outA X x = (c, 2) := by unfold outA; rw [e0]; rfl
      have o1 : outA X (mt x) = (c, (over (cr X c).p + 2) % 4) := by unfold outA; rw [e1]
      rw [e1] at a3
      rw [o1] at a4
      have t := turn 0 (by omega)
      rw [o0, e0, out_cp 2 (by omega), m]
      rcases over_cases (cr X c).p with ⟨hp, ho⟩ | ⟨hp, ho⟩
      · rw [ho] at a3 a4
        rw [hp]
        simp only [show (2 + 1) % 4 = 3 by omega, show (0 + 3) % 4 = 3 by omega] at t ⊢
        rw [t, a3]
        unfold wz
        by_cases k : mt x ∈ w2 <;> simp [k]
      · rw [ho] at a3 a4
        rw [hp]
        simp only [show (1 + 2) % 4 = 3 by omega] at a4
        simp only [show (2 + 1) % 4 = 3 by omega, show (0 + 3) % 4 = 3 by omega] at t ⊢
        rw [t, a4]
        unfold wz
        by_cases k : mt x ∈ w2 <;> simp [k]
    · have e0 : ip X x = (c, over (cr X c).p) := by rw [ip_odd m, hcx]
      have m1 : mt x % 2 = 0 := by rw [mt_mod]; omega
      have e1 : ip X (mt x) = (c, 0) := by rw [ip_even m1, mt_div, hcx]
      have o0 : outA X x = (c, (over (cr X c).p + 2) % 4) := by unfold outA; rw [e0]
      have o1 : outA X (mt x) = (c, 2) := by unfold outA; rw [e1]; rfl
      rw [e1] at a3
      rw [o1] at a4
      rw [o0, e0, out_cp _ (Nat.mod_lt _ (by omega)), m]
      rcases over_cases (cr X c).p with ⟨hp, ho⟩ | ⟨hp, ho⟩
      · rw [ho, hp]
        have t := turn 3 (by omega)
        simp only [show ((3 + 2) % 4 + 1) % 4 = 2 by omega, show (3 + 3) % 4 = 2 by omega] at t ⊢
        rw [t, a4]
        unfold wz
        by_cases k : mt x ∈ w2 <;> simp [k]
      · rw [ho, hp]
        have t := turn 1 (by omega)
        simp only [show ((1 + 2) % 4 + 1) % 4 = 0 by omega, show (1 + 3) % 4 = 0 by omega] at t ⊢
        rw [t, a3]
        unfold wz
        by_cases k : mt x ∈ w2 <;> simp [k]
  | true =>
    have e : (h.ar L).nS S x = nxA X (mt x) := by
      show (if S (x / 2) = true ∧ x < 2 * X.length then nxA X (mt x) else nxA X x) = _
      rw [← hcx, hS, if_pos ⟨rfl, hx⟩]
    have e' : (h.ar L).nS S (mt x) = nxA X x := by
      show (if S (mt x / 2) = true ∧ mt x < 2 * X.length then nxA X (mt (mt x)) else nxA X (mt x)) = _
      rw [mt_div, ← hcx, hS, if_pos ⟨rfl, mx⟩, mt_mt]
    rw [e'] at close
    have hcr : crB S w2 x = false := by unfold crB; rw [← hcx, hS]; simp
    rw [e, ipn _ mx]
    unfold stepZ
    rw [hcr]
    simp only [Bool.false_eq_true, if_false]
    have a3 := in_z (mt x) mx
    have a4 := out_z x hx
    rw [close] at a4
    rcases Nat.mod_two_eq_zero_or_one x with m | m
    · have e0 : ip X x = (c, 0) := by rw [ip_even m, hcx]
      have m1 : mt x % 2 = 1 := by rw [mt_mod]; omega
      have e1 : ip X (mt x) = (c, over (cr X c).p) := by rw [ip_odd m1, mt_div, hcx]
      have o0 : outA X x = (c, 2) := by unfold outA; rw [e0]; rfl
      have o1 : outA X (mt x) = (c, (over (cr X c).p + 2) % 4) := by unfold outA; rw [e1]
      rw [e1] at a3
      rw [o0] at a4
      rw [o1, e0, out_cp _ (Nat.mod_lt _ (by omega))]
      rcases over_cases (cr X c).p with ⟨_, ho⟩ | ⟨_, ho⟩
      · rw [ho] at a3 ⊢
        have t := turn 0 (by omega)
        have t' := turn 3 (by omega)
        simp only [show ((3 + 2) % 4 + 1) % 4 = 2 by omega, show (0 + 3) % 4 = 3 by omega, show (3 + 3) % 4 = 2 by omega] at t t' ⊢
        omega
      · rw [ho]
        simp only [show ((1 + 2) % 4 + 1) % 4 = 0 by omega]
        omega
    · have e0 : ip X x = (c, over (cr X c).p) := by rw [ip_odd m, hcx]
      have m1 : mt x % 2 = 0 := by rw [mt_mod]; omega
      have e1 : ip X (mt x) = (c, 0) := by rw [ip_even m1, mt_div, hcx]
      have o0 : outA X x = (c, (over (cr X c).p + 2) % 4) := by unfold outA; rw [e0]
      have o1 : outA X (mt x) = (c, 2) := by unfold outA; rw [e1]; rfl
      rw [e1] at a3
      rw [o0] at a4
      rw [o1, e0, out_cp 2 (by omega)]
      rcases over_cases (cr X c).p with ⟨_, ho⟩ | ⟨_, ho⟩
      · rw [ho]
        simp only [show (2 + 1) % 4 = 3 by omega]
        omega
      · rw [ho] at a4 ⊢
        have t := turn 1 (by omega)
        have t' := turn 0 (by omega)
        simp only [show (1 + 2) % 4 = 3 by omega] at a4
        simp only [show (2 + 1) % 4 = 3 by omega, show (1 + 3) % 4 = 0 by omega, show (0 + 3) % 4 = 3 by omega] at t t' ⊢
        omega
/- of a planar diagram the signs of two words cancel -/
theorem Ok.linked (h : Ok X) (hp : planarB X = true) (L : Nat) : LK (h.ar L) := by
  intro S A B w1 w2 hW
  have hpm := (h.ar L).nS_pm S
  have hW2 := hW.cyc w2 (by simp)
  have hW1 := hW.cyc w1 (by simp)
  have hc : ∀ x, x < 2 * X.length → ((h.ar L).nS S x ∈ w2 ↔ x ∈ w2) := fun x _ =>
    ⟨fun k => cy_orb hW2 k (hpm.back x), fun k => cy_closed hW2 k⟩
  obtain ⟨cp, c1, c2⟩ := h.face_pot hp L hc
  have hn : w1.Nodup := word_nodup hW.nodup (by simp)
  have hp1 : (w1.map ((h.ar L).nS S)).Perm w1 := inj_perm hn (fun x hx => cy_closed hW1 hx) fun x _ y _ e => hpm.inj x y e
  have e1 := lz_perm hp1 fun x => cp (ip X x)
  rw [lz_map] at e1
  have e2 : lz w1 (fun x => cp (ip X ((h.ar L).nS S x)) - cp (ip X x)) = lz w1 (stepZ X S w2) := lz_congr fun x hx => by
    have hx2 : x < 2 * X.length := hW.mem.1 (by simp [hx])
    exact h.face_step L hc c1 c2 hx2
  rw [lz_sub, e1, Int.sub_self] at e2
  have e3 : ∀ l : List Nat, lz l (stepZ X S w2) = ((l.countP fun x => crB S w2 x && !sgl (h.ar L) x : Nat) : Int) - ((l.countP fun x => crB S w2 x && sgl (h.ar L) x : Nat) : Int) := by
    intro l
    induction l with
    | nil => rfl
    | cons a l ih =>
      rw [lz_cons, ih, List.countP_cons, List.countP_cons]
      unfold stepZ
      have es : sgl (h.ar L) a = if a % 2 = 1 then (cr X (a / 2)).p else !(cr X (a / 2)).p := rfl
      rw [← es]
      cases crB S w2 a <;> cases sgl (h.ar L) a <;> simp <;> omega
  rw [e3] at e2
  omega
end
end Go.Proofs.Ytlicglicfijelaa.Kn

/- Letters that are left out: the next one that is left, words of those left: plain mathematics. -/
namespace Go.Proofs.Ytlicglicfijelaa.Kn

/- the first live letter behind a letter -/
inductive Via (dead : Nat → Bool) (f : Nat → Nat) : Nat → Nat → Prop
  | one {x : Nat} : dead (f x) = false → Via dead f x (f x)
  | more {x y : Nat} : dead (f x) = true → Via dead f (f x) y → Via dead f x y
section
variable {dead : Nat → Bool} {f : Nat → Nat}
theorem Via.live {x y : Nat} (h : Via dead f x y) : dead y = false := by
  induction h with
  | one h => exact h
  | more _ _ ih => exact ih
theorem Via.uniq {x y : Nat} (h : Via dead f x y) : ∀ {z : Nat}, Via dead f x z → y = z := by
  induction h with
  | one h =>
    intro z k
    cases k with
    | one _ => rfl
    | more k _ => rw [h] at k; cases k
  | more h _ ih =>
    intro z k
    cases k with
    | one k => rw [k] at h; cases h
    | more _ k => exact ih k
theorem Via.orb {x y : Nat} (h : Via dead f x y) : Orb f x y := by
  induction h with
  | one _ => exact Orb.one f _
  | more _ _ ih => exact (Orb.one f _).trans ih
theorem Via.congr {f' : Nat → Nat} (hd : ∀ y, dead y = true → f' y = f y) {x z : Nat} (h : Via dead f x z) : ∀ {x' : Nat}, f' x' = f x → Via dead f' x' z := by
  induction h with
  | one h =>
    intro x' e
    rw [← e]
    exact .one (by rw [e]; exact h)
  | more h _ ih =>
    intro x' e
    refine .more (by rw [e]; exact h) ?_
    rw [e]
    exact ih (hd _ h)
theorem Via.pre {x z : Nat} (h : Via dead f x z) : (dead (f x) = false ∧ z = f x) ∨ (dead (f x) = true ∧ Via dead f (f x) z) := by
  cases h with
  | one k => exact .inl ⟨k, rfl⟩
  | more k k' => exact .inr ⟨k, k'⟩
end

/- letters of a smaller set of crossings within a greater one -/
structure Emb (A Z : Ar) (e r : Nat → Nat) (dead : Nat → Bool) : Prop where
  lt : ∀ l, l < 2 * Z.n → e l < 2 * A.n
  mt : ∀ l, l < 2 * Z.n → e (mt l) = mt (e l)
  re : ∀ l, l < 2 * Z.n → r (e l) = l
  live : ∀ l, l < 2 * Z.n → dead (e l) = false
  back : ∀ x, x < 2 * A.n → dead x = false → r x < 2 * Z.n ∧ e (r x) = x
  sg : ∀ l, l < 2 * Z.n → sgl A (e l) = sgl Z l
structure Red (A Z : Ar) (e : Nat → Nat) (dead : Nat → Bool) (S T : St) : Prop where
  st : ∀ l, l < 2 * Z.n → S (e l / 2) = T (l / 2)
  via : ∀ l, l < 2 * Z.n → Via dead (A.nS S) (e l) (e (Z.nS T l))
section
variable {A Z : Ar} {e r : Nat → Nat} {dead : Nat → Bool} {S T : St}
theorem Emb.inj (h : Emb A Z e r dead) {l m : Nat} (hl : l < 2 * Z.n) (hm : m < 2 * Z.n) (k : e l = e m) : l = m := by rw [← h.re l hl, k, h.re m hm]
theorem Emb.div (h : Emb A Z e r dead) {l m : Nat} (hl : l < 2 * Z.n) (hm : m < 2 * Z.n) : e l / 2 = e m / 2 ↔ l / 2 = m / 2 := by
  constructor
  · intro k
    rcases of_div k with k | k
    · rw [h.inj hl hm k]
    · rw [← h.mt m hm] at k
      rw [h.inj hl (mt_lt.2 hm) k, mt_div]
  · intro k
    rcases of_div k with rfl | rfl
    · rfl
    · rw [h.mt m hm, mt_div]
theorem Emb.dead_ne (h : Emb A Z e r dead) {l y : Nat} (hl : l < 2 * Z.n) (hy : dead y = true) : y / 2 ≠ e l / 2 := fun k => by
  rcases of_div k with rfl | rfl
  · rw [h.live l hl] at hy; cases hy
  · rw [← h.mt l hl, h.live _ (mt_lt.2 hl)] at hy; cases hy
theorem Red.ad (hE : Emb A Z e r dead) (h : Red A Z e dead S T) {l : Nat} (hl : l < 2 * Z.n) (hT : T (l / 2) = false) : Red A Z e dead (ad S (e l / 2)) (ad T (l / 2)) := by
  refine ⟨fun m hm => ?_, fun m hm => ?_⟩
  · by_cases k : m / 2 = l / 2
    · rw [k, ad_same, (hE.div hm hl).2 k, ad_same]
    · rw [ad_ne k, ad_ne fun k' => k ((hE.div hm hl).1 k')]
      exact h.st m hm
  · have hd : ∀ y, dead y = true → A.nS (Kn.ad S (e l / 2)) y = A.nS S y := fun y hy => A.nS_ad_ne (hE.dead_ne hl hy)
    by_cases k : m / 2 = l / 2
    · have k' := (hE.div hm hl).2 k
      have hTm : T (m / 2) = false := by rw [k]; exact hT
      have e1 : Z.nS (Kn.ad T (l / 2)) m = Z.nS T (Kn.mt m) := by rw [← k]; exact Z.nS_ad hTm hm
      have e2 : A.nS (Kn.ad S (e l / 2)) (e m) = A.nS S (e (Kn.mt m)) := by
        rw [← k', A.nS_ad (by rw [h.st m hm]; exact hTm) (hE.lt m hm), hE.mt m hm]
      rw [e1]
      exact (h.via (Kn.mt m) (mt_lt.2 hm)).congr hd e2
    · rw [Z.nS_ad_ne k]
      exact (h.via m hm).congr hd (A.nS_ad_ne fun k' => k ((hE.div hm hl).1 k'))
theorem Red.orb (hE : Emb A Z e r dead) (h : Red A Z e dead S T) {l m : Nat} (hl : l < 2 * Z.n) (hm : m < 2 * Z.n) : Orb (A.nS S) (e l) (e m) ↔ Orb (Z.nS T) l m := by
  constructor
  · intro k
    have key : ∀ {y : Nat}, Orb (A.nS S) (e l) y → (dead y = false ∧ ∃ l', l' < 2 * Z.n ∧ Orb (Z.nS T) l l' ∧ y = e l') ∨ (dead y = true ∧ ∃ l', l' < 2 * Z.n ∧ Orb (Z.nS T) l l' ∧ Via dead (A.nS S) y (e (Z.nS T l'))) := by
      intro y k
      refine k.ind (P := fun y => (dead y = false ∧ ∃ l', l' < 2 * Z.n ∧ Orb (Z.nS T) l l' ∧ y = e l') ∨ (dead y = true ∧ ∃ l', l' < 2 * Z.n ∧ Orb (Z.nS T) l l' ∧ Via dead (A.nS S) y (e (Z.nS T l')))) (fun x hx => ?_) ?_
      · have : ∃ l', l' < 2 * Z.n ∧ Orb (Z.nS T) l l' ∧ Via dead (A.nS S) x (e (Z.nS T l')) := by
          rcases hx with ⟨_, l', h1, h2, h3⟩ | ⟨_, l', h1, h2, h3⟩
          · exact ⟨l', h1, h2, by rw [h3]; exact h.via l' h1⟩
          · exact ⟨l', h1, h2, h3⟩
        obtain ⟨l', h1, h2, h3⟩ := this
        rcases h3.pre with ⟨k1, k2⟩ | ⟨k1, k2⟩
        · exact .inl ⟨k1, Z.nS T l', (Z.nS_pm T).lt _ h1, h2.trans (Orb.one _ _), k2.symm⟩
        · exact .inr ⟨k1, l', h1, h2, k2⟩
      · exact .inl ⟨hE.live l hl, l, hl, Orb.refl _ _, rfl⟩
    rcases key k with ⟨_, l', h1, h2, h3⟩ | ⟨k1, _⟩
    · rw [hE.inj hm h1 h3]; exact h2
    · rw [hE.live m hm] at k1; cases k1
  · intro k
    exact (k.ind (P := fun m => m < 2 * Z.n ∧ Orb (A.nS S) (e l) (e m)) (fun x hx => ⟨(Z.nS_pm T).lt _ hx.1, hx.2.trans (h.via x hx.1).orb⟩) ⟨hl, Orb.refl _ _⟩).2
/- how many words there are behind one more smoothed crossing -/
theorem Ar.k_ad (A : Ar) {S : St} {l : Nat} (hl : l < 2 * A.n) (hS : S (l / 2) = false) :
    (Orb (A.nS S) l (mt l) → A.k S + 1 = A.k (ad S (l / 2))) ∧ (¬ Orb (A.nS S) l (mt l) → A.k (ad S (l / 2)) + 1 = A.k S) := by
  have hpm := A.nS_pm S
  have e : A.nS (ad S (l / 2)) = fun x => swp (A.nS S l) (A.nS S (mt l)) (A.nS S x) := funext fun x => by
    by_cases c : x / 2 = l / 2
    · rcases of_div c with rfl | rfl
      · rw [swp_a, A.nS_ad hS hl]
      · rw [swp_b, A.nS_ad' hS hl]
    · rw [A.nS_ad_ne c, swp_ne]
      · exact fun k => c (by rw [hpm.inj _ _ k])
      · exact fun k => c (by rw [hpm.inj _ _ k, mt_div])
  have o : Orb (A.nS S) (A.nS S l) (A.nS S (mt l)) ↔ Orb (A.nS S) l (mt l) :=
    ⟨fun k => ((Orb.one _ l).trans k).trans (hpm.back _), fun k => ((hpm.back l).trans k).trans (Orb.one _ _)⟩
  have hne : A.nS S l ≠ A.nS S (mt l) := fun k => mt_ne l (hpm.inj _ _ k).symm
  have h1 := hpm.lt l hl
  have h2 := hpm.lt (mt l) (mt_lt.2 hl)
  unfold Ar.k
  rw [e]
  constructor
  · intro k
    have := cl_part hpm h1 h2 hne (o.2 k)
    omega
  · intro k
    have := cl_join hpm h1 h2 fun k' => k (o.1 k')
    omega

/- the words of those that are left -/
def fw (dead : Nat → Bool) (r : Nat → Nat) (w : List Nat) : List Nat := (w.filter fun x => !dead x).map r
def fil (dead : Nat → Bool) (r : Nat → Nat) (ws : List (List Nat)) : List (List Nat) := (ws.map (fw dead r)).filter fun w => !w.isEmpty
theorem fw_app (u v : List Nat) : fw dead r (u ++ v) = fw dead r u ++ fw dead r v := by unfold fw; rw [List.filter_append, List.map_append]
theorem fil_app (u v : List (List Nat)) : fil dead r (u ++ v) = fil dead r u ++ fil dead r v := by unfold fil; rw [List.map_append, List.filter_append]
theorem fil_cons (w : List Nat) (ws : List (List Nat)) : fil dead r (w :: ws) = if fw dead r w = [] then fil dead r ws else fw dead r w :: fil dead r ws := by
  unfold fil
  rw [List.map_cons, List.filter_cons]
  cases c : fw dead r w <;> simp
theorem fil_flat : ∀ ws : List (List Nat), (fil dead r ws).flatten = fw dead r ws.flatten
  | [] => rfl
  | w :: ws => by
    rw [fil_cons, List.flatten_cons, fw_app, ← fil_flat ws]
    by_cases c : fw dead r w = []
    · rw [if_pos c, c]; rfl
    · rw [if_neg c]; rfl
theorem fil_ne {ws : List (List Nat)} {w : List Nat} (h : w ∈ fil dead r ws) : w ≠ [] := by
  unfold fil at h
  have := (List.mem_filter.1 h).2
  intro e; subst e; simp at this
theorem fil_split {X Y : List (List Nat)} {w' : List Nat} : ∀ {ws : List (List Nat)}, fil dead r ws = X ++ w' :: Y → ∃ WX w WY, ws = WX ++ w :: WY ∧ fil dead r WX = X ∧ fw dead r w = w' ∧ fil dead r WY = Y
  | [], h => by
    have h : [] = X ++ w' :: Y := h
    simp at h
  | v :: ws, h => by
    rw [fil_cons] at h
    by_cases c : fw dead r v = []
    · rw [if_pos c] at h
      obtain ⟨WX, w, WY, h1, h2, h3, h4⟩ := fil_split h
      exact ⟨v :: WX, w, WY, by rw [h1]; rfl, by rw [fil_cons, if_pos c, h2], h3, h4⟩
    · rw [if_neg c] at h
      cases X with
      | nil =>
        injection h with h1 h2
        exact ⟨[], v, ws, rfl, rfl, h1, h2⟩
      | cons x X =>
        injection h with h1 h2
        obtain ⟨WX, w, WY, k1, k2, k3, k4⟩ := fil_split h2
        exact ⟨v :: WX, w, WY, by rw [k1]; rfl, by rw [fil_cons, if_neg c, k2, h1], k3, k4⟩
theorem fw_split {w u v : List Nat} (h : fw dead r w = u ++ v) : ∃ p q, w = p ++ q ∧ fw dead r p = u ∧ fw dead r q = v := by
  unfold fw at h
  obtain ⟨a, b, h1, h2, h3⟩ := List.map_eq_append_iff.1 h
  obtain ⟨p, q, h4, h5, h6⟩ := List.filter_eq_append_iff.1 h1
  exact ⟨p, q, h4, by unfold fw; rw [h5, h2], by unfold fw; rw [h6, h3]⟩
/- a way, of those that are left -/
theorem ch_fw (hE : Emb A Z e r dead) (h : Red A Z e dead S T) {m : Nat} (hm : m < 2 * Z.n) : ∀ {w : List Nat} {x l : Nat}, (∀ y ∈ w, y < 2 * A.n) → l < 2 * Z.n → (∀ y, Via dead (A.nS S) x y → Via dead (A.nS S) (e l) y) →
    Ch (A.nS S) x w (e m) → Ch (Z.nS T) l (fw dead r w) m
  | [], x, l, _, hl, hv, hc => by
    have h1 : A.nS S x = e m := hc
    have h2 : Via dead (A.nS S) x (e m) := by rw [← h1]; exact .one (by rw [h1]; exact hE.live m hm)
    have h3 := (hv _ h2).uniq (h.via l hl)
    show Z.nS T l = m
    exact (hE.inj hm ((Z.nS_pm T).lt l hl) h3).symm
  | y :: w, x, l, hw, hl, hv, hc => by
    obtain ⟨h1, h2⟩ := hc
    have hw' : ∀ z ∈ w, z < 2 * A.n := fun z hz => hw z (by simp [hz])
    cases c : dead y with
    | true =>
      have : fw dead r (y :: w) = fw dead r w := by unfold fw; rw [List.filter_cons_of_neg (by simp [c])]
      rw [this]
      exact ch_fw hE h hm hw' hl (fun z hz => hv z (.more (by rw [h1]; exact c) (by rw [h1]; exact hz))) h2
    | false =>
      have : fw dead r (y :: w) = r y :: fw dead r w := by unfold fw; rw [List.filter_cons_of_pos (by simp [c]), List.map_cons]
      rw [this]
      obtain ⟨b1, b2⟩ := hE.back y (hw y (by simp)) c
      have h3 : Via dead (A.nS S) x y := by rw [← h1]; exact .one (by rw [h1]; exact c)
      have h4 := (hv _ h3).uniq (h.via l hl)
      have h5 : r y = Z.nS T l := hE.inj b1 ((Z.nS_pm T).lt l hl) (b2.trans h4)
      refine ⟨h5.symm, ch_fw hE h hm hw' b1 (fun z hz => ?_) h2⟩
      rw [b2]; exact hz
theorem Ws.fil (hE : Emb A Z e r dead) (h : Red A Z e dead S T) {ws : List (List Nat)} (hW : Ws (2 * A.n) (A.nS S) ws) : Ws (2 * Z.n) (Z.nS T) (fil dead r ws) := by
  refine ⟨?_, fun w' hw' => ?_⟩
  · rw [fil_flat]
    have h1 : (fw dead r ws.flatten).Nodup := by
      unfold fw
      refine map_nodup (hW.nodup.filter _) fun x hx y hy k => ?_
      rw [List.mem_filter] at hx hy
      have b1 := (hE.back x (hW.mem.1 hx.1) (by simpa using hx.2)).2
      have b2 := (hE.back y (hW.mem.1 hy.1) (by simpa using hy.2)).2
      rw [← b1, k, b2]
    refine (List.perm_ext_iff_of_nodup h1 List.nodup_range).2 fun x => ?_
    unfold fw
    rw [List.mem_map, List.mem_range]
    constructor
    · rintro ⟨y, hy, rfl⟩
      rw [List.mem_filter] at hy
      exact (hE.back y (hW.mem.1 hy.1) (by simpa using hy.2)).1
    · intro hx
      exact ⟨e x, List.mem_filter.2 ⟨hW.mem.2 (hE.lt x hx), by rw [hE.live x hx]; rfl⟩, hE.re x hx⟩
  · have hne := fil_ne hw'
    unfold Kn.fil at hw'
    obtain ⟨w, hw, e1⟩ := List.mem_map.1 (List.mem_filter.1 hw').1
    -- the first live letter of w
    obtain ⟨a, u, hau⟩ : ∃ a u, w.filter (fun x => !dead x) = a :: u := by
      cases k : w.filter (fun x => !dead x) with
      | nil => exact absurd (by rw [← e1]; unfold fw; rw [k]; rfl) hne
      | cons a u => exact ⟨a, u, rfl⟩
    have ha : a ∈ w ∧ dead a = false := by
      have : a ∈ w.filter (fun x => !dead x) := by rw [hau]; simp
      rw [List.mem_filter] at this
      exact ⟨this.1, by simpa using this.2⟩
    obtain ⟨p, q, hpq, hp, hq⟩ := List.filter_eq_append_iff.1 (show w.filter (fun x => !dead x) = [] ++ (a :: u) from hau)
    obtain ⟨p', q', hq1, hq2, hq3⟩ : ∃ p' q', q = p' ++ a :: q' ∧ p'.filter (fun x => !dead x) = [] ∧ q'.filter (fun x => !dead x) = u := by
      obtain ⟨l1, l2, k1, k2, k3, k4⟩ := List.filter_eq_cons_iff.1 hq
      exact ⟨l1, l2, k1, by rw [List.filter_eq_nil_iff]; exact k2, k4⟩
    have hmem : ∀ y ∈ w, y < 2 * A.n := fun y hy => hW.mem.1 (List.mem_flatten.2 ⟨w, hw, hy⟩)
    have hc : Cy (A.nS S) ((p ++ p') ++ a :: q') := by
      have := hW.cyc w hw
      rw [hpq, hq1, ← List.append_assoc] at this
      exact this
    have hc2 := cy_cut.1 hc
    obtain ⟨b1, b2⟩ := hE.back a (hmem a ha.1) ha.2
    have h3 := ch_fw hE h (m := r a) b1 (w := q' ++ (p ++ p')) (x := a) (l := r a) (fun y hy => hmem y (by
      rw [hpq, hq1]
      simp only [List.mem_append, List.mem_cons] at hy ⊢
      rcases hy with k | k | k
      · exact .inr (.inr (.inr k))
      · exact .inl k
      · exact .inr (.inl k))) b1 (fun z hz => by rw [b2]; exact hz) (by rw [b2]; exact hc2)
    have h4 : fw dead r (q' ++ (p ++ p')) = u.map r := by
      unfold fw
      rw [List.filter_append, List.filter_append, hq3, hp, hq2]
      simp
    rw [h4] at h3
    rw [← e1]
    unfold fw
    rw [hau]
    exact h3
/- any words of those that are left come of words -/
theorem lift_any (hE : Emb A Z e r dead) (h : Red A Z e dead S T) {zs : List (List Nat)} (hz : Ws (2 * Z.n) (Z.nS T) zs) : ∃ ws, Ws (2 * A.n) (A.nS S) ws ∧ fil dead r ws = zs := by
  obtain ⟨ws0, hw0⟩ := A.ws_ex S
  have := conn (N := 2 * Z.n) (f := Z.nS T) (P := fun zs => ∃ ws, Ws (2 * A.n) (A.nS S) ws ∧ fil dead r ws = zs) (fun X Y u v _ h2 => ?_) (fun X Y u v _ h2 => ?_) (vs := zs) (ws := fil dead r ws0) (Z := []) (hw0.fil hE h) hz ⟨ws0, hw0, rfl⟩
  · exact this
  · obtain ⟨ws, h3, h4⟩ := h2
    obtain ⟨WX, w1, W', k1, k2, k3, k4⟩ := fil_split h4
    obtain ⟨WD, w2, WY, j1, j2, j3, j4⟩ := fil_split (X := []) k4
    refine ⟨WX ++ w2 :: (WD ++ w1 :: WY), h3.of_perm ?_, ?_⟩
    · rw [k1, j1]
      refine List.perm_iff_count.2 fun z => ?_
      simp only [List.count_append, List.count_cons]
      omega
    · have n1 : fw dead r w1 ≠ [] := by
        rw [k3]
        exact fil_ne (dead := dead) (r := r) (ws := ws) (by rw [h4]; simp)
      have n2 : fw dead r w2 ≠ [] := by
        rw [j3]
        exact fil_ne (dead := dead) (r := r) (ws := ws) (by rw [h4]; simp)
      rw [fil_app, fil_cons, if_neg n2, fil_app, fil_cons, if_neg n1, k2, j2, j3, k3, j4]
      rfl
  · obtain ⟨ws, h3, h4⟩ := h2
    obtain ⟨WX, w, WY, k1, k2, k3, k4⟩ := fil_split h4
    obtain ⟨p, q, j1, j2, j3⟩ := fw_split k3
    have hne : u ++ v ≠ [] := fil_ne (dead := dead) (r := r) (ws := ws) (by rw [h4]; simp)
    have h5 : Ws (2 * A.n) (A.nS S) (WX ++ (p ++ q) :: WY) := by rw [← j1, ← k1]; exact h3
    refine ⟨WX ++ (q ++ p) :: WY, h5.rot, ?_⟩
    have n1 : fw dead r (q ++ p) ≠ [] := by
      rw [fw_app, j2, j3]
      intro k
      rw [List.append_eq_nil_iff] at k
      exact hne (by rw [k.1, k.2]; rfl)
    rw [fil_app, fil_cons, if_neg n1, fw_app, k2, j2, j3, k4]
end
end Go.Proofs.Ytlicglicfijelaa.Kn

/- TWO DIAGRAMS OF WHICH LETTERS ARE LEFT OUT: where those left out are over all and come one behind another, or are smoothed, their values are one: plain mathematics. -/
namespace Go.Proofs.Ytlicglicfijelaa.Kn

def lst : Nat → List Nat → Nat
  | x, [] => x
  | _, y :: t => lst y t
def Run (f : Nat → Nat) : Nat → List Nat → Prop
  | _, [] => True
  | x, y :: t => f x = y ∧ Run f y t
theorem run_pre {f : Nat → Nat} {z : Nat} : ∀ {t v : List Nat} {x : Nat}, Ch f x v z → Run f x t → z ∉ t → ∃ R, v = t ++ R ∧ Ch f (lst x t) R z
  | [], v, x, h, _, _ => ⟨v, rfl, h⟩
  | y :: t, v, x, h, hr, hz => by
    obtain ⟨h1, h2⟩ := hr
    cases v with
    | nil =>
      have : f x = z := h
      rw [h1] at this
      exact absurd (by simp [this]) hz
    | cons b v =>
      have e : b = y := h.1.symm.trans h1
      subst e
      obtain ⟨R, k1, k2⟩ := run_pre h.2 h2 fun k => hz (by simp [k])
      exact ⟨R, by rw [k1]; rfl, k2⟩
theorem via_first {dead : Nat → Bool} {f : Nat → Nat} {z a : Nat} {u : List Nat} : ∀ {x : Nat} {w : List Nat}, Ch f x w z → (w.filter fun y => !dead y) = a :: u → Via dead f x a
  | x, [], _, h => by simp at h
  | x, y :: w, h, k => by
    have e : f x = y := h.1
    cases c : dead y with
    | false =>
      rw [List.filter_cons_of_pos (by simp [c])] at k
      injection k with k1 _
      rw [← k1, ← e]
      exact .one (by rw [e]; exact c)
    | true =>
      rw [List.filter_cons_of_neg (by simp [c])] at k
      refine .more (by rw [e]; exact c) ?_
      rw [e]
      exact via_first h.2 k
theorem bef_map {r : Nat → Nat} {x y : Nat} : ∀ {G : List Nat}, (∀ a ∈ G, r a = r x → a = x) → (∀ a ∈ G, r a = r y → a = y) → (bef (G.map r) (r x) (r y) ↔ bef G x y)
  | [], _, _ => by simp [bef]
  | a :: G, hx, hy => by
    have ih := bef_map (G := G) (fun b hb => hx b (by simp [hb])) (fun b hb => hy b (by simp [hb]))
    have e1 : (r a == r x) = (a == x) := by
      by_cases c : a = x
      · subst c; simp
      · have : r a ≠ r x := fun k => c (hx a (by simp) k)
        rw [beq_eq_false_iff_ne.2 this, beq_eq_false_iff_ne.2 c]
    have e2 : (r a == r y) = (a == y) := by
      by_cases c : a = y
      · subst c; simp
      · have : r a ≠ r y := fun k => c (hy a (by simp) k)
        rw [beq_eq_false_iff_ne.2 this, beq_eq_false_iff_ne.2 c]
    unfold bef at ih ⊢
    rw [List.map_cons, List.idxOf_cons, List.idxOf_cons, List.idxOf_cons, List.idxOf_cons, e1, e2]
    cases (a == x) <;> cases (a == y) <;> simp [ih]
theorem Ar.ws_at (A : Ar) (S : St) {m : Nat} (hm : m < 2 * A.n) : ∃ u Y, Ws (2 * A.n) (A.nS S) ((m :: u) :: Y) := by
  obtain ⟨ws, hW⟩ := A.ws_ex S
  obtain ⟨w, hw, hx⟩ := hW.word hm
  obtain ⟨P, Q, rfl⟩ := List.append_of_mem hw
  obtain ⟨p, q, rfl⟩ := List.append_of_mem hx
  have h1 := hW.rot
  exact ⟨q ++ p, P ++ Q, h1.of_perm (List.perm_iff_count.2 fun z => by simp only [List.count_append, List.count_cons, List.cons_append]; omega)⟩

section
variable {A Z : Ar} {e r : Nat → Nat} {dead : Nat → Bool} {S T : St}
theorem Emb.dead_mt (hE : Emb A Z e r dead) {x : Nat} (hx : x < 2 * A.n) : dead (Kn.mt x) = dead x := by
  have key : ∀ x, x < 2 * A.n → dead x = false → dead (Kn.mt x) = false := fun x hx hd => by
    obtain ⟨b1, b2⟩ := hE.back x hx hd
    rw [← b2, ← hE.mt _ b1]
    exact hE.live _ (mt_lt.2 b1)
  cases c : dead x with
  | false => exact key x hx c
  | true =>
    cases c' : dead (Kn.mt x) with
    | true => rfl
    | false =>
      have := key (Kn.mt x) (mt_lt.2 hx) c'
      rw [mt_mt, c] at this; cases this
/- words with the run ahead -/
theorem lift_top (hE : Emb A Z e r dead) (h : Red A Z e dead S T) {zs : List (List Nat)} (hz : Ws (2 * Z.n) (Z.nS T) zs) {y1 : Nat} {t : List Nat} (hd : ∀ y ∈ y1 :: t, y < 2 * A.n ∧ dead y = true) (hn : (y1 :: t).Nodup)
    (hr : Run (A.nS S) y1 t) (hh : ∀ m, m < 2 * Z.n → Via dead (A.nS S) (lst y1 t) (e m) → ∃ u Y, zs = (m :: u) :: Y) :
    ∃ ws G, Ws (2 * A.n) (A.nS S) ws ∧ fw dead r ws.flatten = zs.flatten ∧ ws.flatten = (y1 :: t) ++ G := by
  obtain ⟨ws, hW, hf⟩ := lift_any hE h hz
  obtain ⟨w, hw, hx⟩ := hW.word (hd y1 (by simp)).1
  obtain ⟨P, Q, rfl⟩ := List.append_of_mem hw
  obtain ⟨p, q, rfl⟩ := List.append_of_mem hx
  have W1 := hW.rot
  have W2 : Ws (2 * A.n) (A.nS S) ((y1 :: q ++ p) :: (P ++ Q)) := W1.of_perm (List.perm_iff_count.2 fun z => by simp only [List.count_append, List.count_cons, List.cons_append]; omega)
  have n1 : (y1 :: (q ++ p)).Nodup := word_nodup W2.nodup (by simp)
  obtain ⟨R, k1, k2⟩ := run_pre (z := y1) (W2.cyc (y1 :: q ++ p) (by simp)) hr (List.nodup_cons.1 hn).1
  have k1 : q ++ p = t ++ R := k1
  have hfl : ((y1 :: q ++ p) :: (P ++ Q)).flatten = (y1 :: t) ++ (R ++ (P ++ Q).flatten) := by
    rw [List.flatten_cons, List.cons_append, k1]
    simp
  refine ⟨_, R ++ (P ++ Q).flatten, W2, ?_, hfl⟩
  have dt : fw dead r (y1 :: t) = [] := by
    unfold fw
    rw [List.map_eq_nil_iff, List.filter_eq_nil_iff]
    intro y hy
    simp [(hd y hy).2]
  have eW : fw dead r (y1 :: q ++ p) = fw dead r R := by
    have : y1 :: q ++ p = (y1 :: t) ++ R := by rw [List.cons_append, k1]; rfl
    rw [this, fw_app, dt]; rfl
  have same : fw dead r (y1 :: q ++ p) = fw dead r (y1 :: q) ++ fw dead r p := fw_app _ _
  have same' : fw dead r (p ++ y1 :: q) = fw dead r p ++ fw dead r (y1 :: q) := fw_app _ _
  rw [List.flatten_cons, fw_app, ← fil_flat (P ++ Q), fil_app]
  rw [fil_app, fil_cons] at hf
  cases c : fw dead r (y1 :: q ++ p) with
  | nil =>
    rw [same, List.append_eq_nil_iff] at c
    rw [same', c.1, c.2, List.append_nil, if_pos rfl] at hf
    rw [hf]; rfl
  | cons m u' =>
    have hne : fw dead r (p ++ y1 :: q) ≠ [] := fun k => by
      rw [same', List.append_eq_nil_iff] at k
      rw [same, k.1, k.2] at c; cases c
    rw [if_neg hne] at hf
    have hW2 : Ws (2 * Z.n) (Z.nS T) ((m :: u') :: fil dead r (P ++ Q)) := by
      have := W2.fil hE h
      rw [fil_cons, if_neg (by rw [c]; simp), c] at this
      exact this
    have hm : m < 2 * Z.n := hW2.mem.1 (by simp)
    obtain ⟨a, v, hav, hra⟩ : ∃ a v, R.filter (fun x => !dead x) = a :: v ∧ r a = m := by
      rw [eW] at c
      unfold fw at c
      obtain ⟨a, v, j1, j2, j3⟩ := List.map_eq_cons_iff.1 c
      exact ⟨a, v, j1, j2⟩
    have hv := via_first k2 hav
    have ha2 : a < 2 * A.n := hv.orb.lt (A.nS_pm S) (by
      have : lst y1 t ∈ y1 :: t := by
        have gen : ∀ (t : List Nat) (x : Nat), lst x t ∈ x :: t := fun t => by
          induction t with
          | nil => intro x; simp [lst]
          | cons y t ih => intro x; exact List.mem_cons_of_mem _ (ih y)
        exact gen t y1
      exact (hd _ this).1)
    have ham : e m = a := by rw [← hra]; exact (hE.back a ha2 hv.live).2
    rw [← ham] at hv
    obtain ⟨u, Y, hzs⟩ := hh m hm hv
    have hmem : m ∈ fw dead r (p ++ y1 :: q) := by
      have : m ∈ fw dead r (y1 :: q ++ p) := by rw [c]; simp
      rw [same, List.mem_append] at this
      rw [same', List.mem_append]
      exact this.symm
    have hP : fil dead r P = [] := by
      cases k : fil dead r P with
      | nil => rfl
      | cons w0 R0 =>
        exfalso
        rw [k, hzs] at hf
        injection hf with f1 f2
        have hzn := hz.nodup
        rw [hzs, ← f2] at hzn
        simp only [List.flatten_cons, List.flatten_append] at hzn
        rw [List.nodup_append] at hzn
        refine hzn.2.2 m (by simp) m ?_ rfl
        simp [hmem]
    rw [hP, List.nil_append, hzs] at hf
    injection hf with f1 f2
    have n3 : (m :: u').Nodup := word_nodup hW2.nodup (by simp)
    have n4 : (m :: u).Nodup := by rw [hzs] at hz; exact word_nodup hz.nodup (by simp)
    have e3 : u' = u := cy_uniq (hW2.cyc (m :: u') (by simp)) (by rw [hzs] at hz; exact hz.cyc (m :: u) (by simp)) (List.nodup_cons.1 n3).1 (List.nodup_cons.1 n4).1
    rw [hP, hzs, e3, f2]; rfl

/- states of the greater set -/
def lf (dead : Nat → Bool) (r : Nat → Nat) (hD h : St) : St := fun d => if dead (2 * d) then hD d else ov h (r (2 * d + 1))
theorem ov_lf (hE : Emb A Z e r dead) {hD h : St} {l : Nat} (hl : l < 2 * Z.n) : ov (lf dead r hD h) (e l) = ov h l := by
  have h1 := hE.lt l hl
  have h2 := hE.live l hl
  have h3 := hE.live (mt l) (mt_lt.2 hl)
  rw [hE.mt l hl] at h3
  rcases Nat.mod_two_eq_zero_or_one (e l) with m | m
  · have e1 : 2 * (e l / 2) = e l := by omega
    have e2 : 2 * (e l / 2) + 1 = mt (e l) := by unfold mt; rw [if_pos m]; omega
    show (if e l % 2 = 1 then lf dead r hD h (e l / 2) else !lf dead r hD h (e l / 2)) = _
    rw [if_neg (by omega)]
    unfold lf
    rw [e1, h2, if_neg (by simp)]
    rw [show e l + 1 = mt (e l) by rw [← e2, e1]] at *
    rw [← hE.mt l hl, hE.re _ (mt_lt.2 hl), ov_mt, Bool.not_not]
  · have e1 : 2 * (e l / 2) + 1 = e l := by omega
    have e2 : 2 * (e l / 2) = mt (e l) := by unfold mt; rw [if_neg (by omega)]; omega
    show (if e l % 2 = 1 then lf dead r hD h (e l / 2) else !lf dead r hD h (e l / 2)) = _
    rw [if_pos m]
    unfold lf
    rw [e1, e2, h3, if_neg (by simp), hE.re l hl]
theorem ov_lf_dead (hE : Emb A Z e r dead) {hD h : St} {y : Nat} (hy : y < 2 * A.n) (hd : dead y = true) : ov (lf dead r hD h) y = ov hD y := by
  refine ov_congr ?_
  unfold lf
  have : dead (2 * (y / 2)) = true := by
    rcases Nat.mod_two_eq_zero_or_one y with m | m
    · rw [show 2 * (y / 2) = y by omega]; exact hd
    · rw [show 2 * (y / 2) = mt y by unfold mt; rw [if_neg (by omega)]; omega, hE.dead_mt hy]; exact hd
  rw [this, if_pos rfl]
theorem lf_fl (hE : Emb A Z e r dead) {hD h : St} {l : Nat} (hl : l < 2 * Z.n) {d : Nat} (hd : d < A.n) : lf dead r hD (fl h (l / 2)) d = fl (lf dead r hD h) (e l / 2) d := by
  have e2 : (2 * d + 1) / 2 = d := by omega
  have e3 : (2 * d) / 2 = d := by omega
  have m1 : mt (2 * d) = 2 * d + 1 := by unfold mt; rw [if_pos (by omega)]
  cases c : dead (2 * d) with
  | true =>
    have hne : d ≠ e l / 2 := fun k => hE.dead_ne hl c (by rw [e3]; exact k)
    rw [fl_ne hne]
    unfold lf
    rw [c, if_pos rfl, if_pos rfl]
  | false =>
    have c' : dead (2 * d + 1) = false := by rw [← m1, hE.dead_mt (by omega)]; exact c
    obtain ⟨b1, b2⟩ := hE.back (2 * d + 1) (by omega) c'
    have a1 : ∀ g : St, lf dead r hD g d = ov g (r (2 * d + 1)) := fun g => by unfold lf; rw [c, if_neg (by simp)]
    by_cases k : d = e l / 2
    · have k' : e (r (2 * d + 1)) / 2 = e l / 2 := by rw [b2, e2]; exact k
      have k2 := (hE.div b1 hl).1 k'
      rw [← k, fl_same, a1, a1, ← k2, ov_fl]
    · have k2 : r (2 * d + 1) / 2 ≠ l / 2 := fun q => k (by
        have := (hE.div b1 hl).2 q
        rw [b2, e2] at this; exact this)
      rw [fl_ne k, a1, a1, ov_fl_ne k2]
/- letters left out that are over all and follow one another -/
structure Tops (A : Ar) (dead : Nat → Bool) (S hD : St) (t : List Nat) : Prop where
  mem : ∀ y ∈ t, y < 2 * A.n ∧ dead y = true ∧ S (y / 2) = false ∧ ov hD y = true ∧ mt y ∉ t
  nd : t.Nodup
  run : ∀ y u, t = y :: u → Run (A.nS S) y u
  cov : ∀ y, y < 2 * A.n → dead y = true → S (y / 2) = false → y ∈ t ∨ mt y ∈ t
theorem run_congr {f g : Nat → Nat} : ∀ {t : List Nat} {x : Nat}, (∀ y ∈ x :: t, g y = f y) → Run f x t → Run g x t
  | [], _, _, _ => trivial
  | y :: t, x, h, k => ⟨(h x (by simp)).trans k.1, run_congr (fun z hz => h z (by simp [hz])) k.2⟩
theorem Tops.ad (hE : Emb A Z e r dead) {hD : St} {t : List Nat} (h : Tops A dead S hD t) {l : Nat} (hl : l < 2 * Z.n) : Tops A dead (ad S (e l / 2)) hD t := by
  have hne : ∀ y, dead y = true → y / 2 ≠ e l / 2 := fun y hy => hE.dead_ne hl hy
  refine ⟨fun y hy => ?_, h.nd, fun y u hu => ?_, fun y hy hd hS => ?_⟩
  · obtain ⟨a, b, c, d⟩ := h.mem y hy
    exact ⟨a, b, by rw [ad_ne (hne y b)]; exact c, d⟩
  · refine run_congr (fun z hz => A.nS_ad_ne (hne z (h.mem z (by rw [hu]; exact hz)).2.1)) (h.run y u hu)
  · rw [ad_ne (hne y hd)] at hS
    exact h.cov y hy hd hS
theorem top_words (hE : Emb A Z e r dead) (h : Red A Z e dead S T) {hD : St} {t : List Nat} (ht : Tops A dead S hD t) {zs : List (List Nat)} (hz : Ws (2 * Z.n) (Z.nS T) zs)
    (hh : ∀ y u, t = y :: u → ∀ m, m < 2 * Z.n → Via dead (A.nS S) (lst y u) (e m) → ∃ u Y, zs = (m :: u) :: Y) :
    ∃ ws, Ws (2 * A.n) (A.nS S) ws ∧ Desc A.n S (lf dead r hD (dn zs.flatten)) ws.flatten := by
  obtain ⟨ws, G, hW, hf, hG⟩ : ∃ ws G, Ws (2 * A.n) (A.nS S) ws ∧ fw dead r ws.flatten = zs.flatten ∧ ws.flatten = t ++ G := by
    cases c : t with
    | nil =>
      obtain ⟨ws, hW, hf⟩ := lift_any hE h hz
      exact ⟨ws, ws.flatten, hW, by rw [← fil_flat, hf], rfl⟩
    | cons y u =>
      rw [c] at ht
      exact lift_top hE h hz (fun x hx => ⟨(ht.mem x hx).1, (ht.mem x hx).2.1⟩) ht.nd (ht.run y u rfl) (hh y u c)
  refine ⟨ws, hW, fun y hy hS hb => ?_⟩
  cases hd : dead y with
  | true =>
    rw [ov_lf_dead hE hy hd]
    rcases ht.cov y hy hd hS with k | k
    · exact (ht.mem y k).2.2.2.1
    · exfalso
      have := (ht.mem _ k).2.2.2.2
      rw [mt_mt] at this
      rw [hG] at hb
      exact not_bef hb (bef_split k this)
  | false =>
    obtain ⟨b1, b2⟩ := hE.back y hy hd
    have hT : T (r y / 2) = false := by rw [← h.st _ b1, b2]; exact hS
    rw [← b2, ov_lf hE b1]
    refine dn_desc (n := Z.n) (S := T) zs.flatten (r y) b1 hT ?_
    rw [← hf]
    have h1 : r (mt y) = mt (r y) := by
      rw [← b2, ← hE.mt _ b1, hE.re _ (mt_lt.2 b1), b2]
    rw [← h1]
    have inj : ∀ x, x < 2 * A.n → dead x = false → ∀ a ∈ ws.flatten.filter (fun x => !dead x), r a = r x → a = x := fun x hx hdx a ha k => by
      rw [List.mem_filter] at ha
      have c1 := (hE.back a (hW.mem.1 ha.1) (by simpa using ha.2)).2
      have c2 := (hE.back x hx hdx).2
      rw [← c1, k, c2]
    have hdm : dead (mt y) = false := by rw [hE.dead_mt hy]; exact hd
    unfold fw
    refine (bef_map (inj y hy hd) (inj (mt y) (mt_lt.2 hy) hdm)).2 ?_
    exact (bef_filter (p := fun x => !dead x) (by simp [hd]) (by simp [hdm]) _).2 hb
end
section
variable {W : Type} {K : CA W} {A B Z : Ar} {eA rA eB rB : Nat → Nat} {dA dB : Nat → Bool} {hDA hDB : St} {tA tB : List Nat}
def Cmp (A B Z : Ar) (eA eB : Nat → Nat) (dA dB : Nat → Bool) (SA SB : St) (tA tB : List Nat) : Prop :=
  ∀ y u, tA = y :: u → ∀ y' u', tB = y' :: u' → ∀ m, m < 2 * Z.n → (Via dA (A.nS SA) (lst y u) (eA m) ↔ Via dB (B.nS SB) (lst y' u') (eB m))
theorem lst_mem : ∀ (t : List Nat) (x : Nat), lst x t ∈ x :: t
  | [], x => by simp [lst]
  | y :: t, x => List.mem_cons_of_mem _ (lst_mem t y)
theorem via_ad {A Z : Ar} {e r : Nat → Nat} {dead : Nat → Bool} {S : St} (hE : Emb A Z e r dead) {l : Nat} (hl : l < 2 * Z.n) {x z : Nat} (hx : dead x = true) : Via dead (A.nS (ad S (e l / 2))) x z ↔ Via dead (A.nS S) x z := by
  have hd : ∀ y, dead y = true → A.nS (ad S (e l / 2)) y = A.nS S y := fun y hy => A.nS_ad_ne (hE.dead_ne hl hy)
  exact ⟨fun k => k.congr (fun y hy => (hd y hy).symm) (hd x hx).symm, fun k => k.congr hd (hd x hx)⟩
theorem sim (hA : LK A) (hB : LK B) (EA : Emb A Z eA rA dA) (EB : Emb B Z eB rB dB) : ∀ (m : Nat) (T : St), Z.live T = m → ∀ (SA SB : St), Red A Z eA dA SA T → Red B Z eB dB SB T → Tops A dA SA hDA tA → Tops B dB SB hDB tB →
    Cmp A B Z eA eB dA dB SA SB tA tB → A.k SA = B.k SB → ∀ h, V K A SA (lf dA rA hDA h) = V K B SB (lf dB rB hDB h) := by
  intro m
  induction m using Nat.strongRecOn with
  | ind m ih =>
    intro T hm SA SB RA RB TA TB hC hk h
    -- one state
    obtain ⟨zs, hz, z1, z2⟩ : ∃ zs, Ws (2 * Z.n) (Z.nS T) zs ∧ (∀ y u, tA = y :: u → ∀ m, m < 2 * Z.n → Via dA (A.nS SA) (lst y u) (eA m) → ∃ u Y, zs = (m :: u) :: Y) ∧
        ∀ y u, tB = y :: u → ∀ m, m < 2 * Z.n → Via dB (B.nS SB) (lst y u) (eB m) → ∃ u Y, zs = (m :: u) :: Y := by
      by_cases c : ∃ y u m, tA = y :: u ∧ m < 2 * Z.n ∧ Via dA (A.nS SA) (lst y u) (eA m)
      · obtain ⟨y, u, m, h1, h2, h3⟩ := c
        obtain ⟨v, Y, hz⟩ := Z.ws_at T h2
        refine ⟨_, hz, fun y' u' k m' hm' hv => ?_, fun y' u' k m' hm' hv => ?_⟩
        · rw [h1] at k
          injection k with k1 k2
          subst k1; subst k2
          have := EA.inj hm' h2 (hv.uniq h3)
          exact ⟨v, Y, by rw [this]⟩
        · have := (hC y u h1 y' u' k m' hm').2 hv
          have := EA.inj hm' h2 (this.uniq h3)
          exact ⟨v, Y, by rw [this]⟩
      · by_cases c' : ∃ y u m, tB = y :: u ∧ m < 2 * Z.n ∧ Via dB (B.nS SB) (lst y u) (eB m)
        · obtain ⟨y, u, m, h1, h2, h3⟩ := c'
          obtain ⟨v, Y, hz⟩ := Z.ws_at T h2
          refine ⟨_, hz, fun y' u' k m' hm' hv => absurd ⟨y', u', m', k, hm', hv⟩ c, fun y' u' k m' hm' hv => ?_⟩
          rw [h1] at k
          injection k with k1 k2
          subst k1; subst k2
          have := EB.inj hm' h2 (hv.uniq h3)
          exact ⟨v, Y, by rw [this]⟩
        · obtain ⟨zs, hz⟩ := Z.ws_ex T
          exact ⟨zs, hz, fun y' u' k m' hm' hv => absurd ⟨y', u', m', k, hm', hv⟩ c, fun y' u' k m' hm' hv => absurd ⟨y', u', m', k, hm', hv⟩ c'⟩
    have base : V K A SA (lf dA rA hDA (dn zs.flatten)) = V K B SB (lf dB rB hDB (dn zs.flatten)) := by
      obtain ⟨wsA, wA, qA⟩ := top_words EA RA TA hz z1
      obtain ⟨wsB, wB, qB⟩ := top_words EB RB TB hz z2
      rw [good hA SA wsA wA _ qA, good hB SB wsB wB _ qB, hk]
    obtain ⟨h0, hh0⟩ : ∃ h0, h0 = dn zs.flatten := ⟨_, rfl⟩
    rw [← hh0] at base
    have key : ∀ (j : Nat) (h : St), ((List.range Z.n).countP fun c => !T c && (h c != h0 c)) = j → V K A SA (lf dA rA hDA h) = V K B SB (lf dB rB hDB h) := by
      intro j
      induction j with
      | zero =>
        intro h hj
        rw [List.countP_eq_zero] at hj
        have heq : ∀ c, c < Z.n → T c = false → h c = h0 c := fun c c1 c2 => by
          have := hj c (List.mem_range.2 c1)
          simpa [c2] using this
        have gen : ∀ {A : Ar} {e r : Nat → Nat} {dead : Nat → Bool} {hD S : St}, Emb A Z e r dead → Red A Z e dead S T → V K A S (lf dead r hD h) = V K A S (lf dead r hD h0) := fun {A e r dead hD S} hE hR => by
          refine V_congr K A fun d d1 d2 => ?_
          unfold lf
          cases c : dead (2 * d) with
          | true => rw [if_pos rfl, if_pos rfl]
          | false =>
            rw [if_neg (by simp), if_neg (by simp)]
            have c' : dead (2 * d + 1) = false := by
              have m1 : mt (2 * d) = 2 * d + 1 := by unfold mt; rw [if_pos (by omega)]
              rw [← m1, hE.dead_mt (by omega)]; exact c
            obtain ⟨b1, b2⟩ := hE.back (2 * d + 1) (by omega) c'
            have hT : T (r (2 * d + 1) / 2) = false := by
              rw [← hR.st _ b1, b2, show (2 * d + 1) / 2 = d by omega]; exact d2
            exact ov_congr (heq _ (by omega) hT)
        rw [gen EA RA, gen EB RB, base]
      | succ j ihj =>
        intro h hj
        have : ∃ c, c ∈ List.range Z.n ∧ (!T c && (h c != h0 c)) = true := by
          refine List.countP_pos_iff.1 ?_
          omega
        obtain ⟨c, hc, hp⟩ := this
        simp only [Bool.and_eq_true, Bool.not_eq_true', bne_iff_ne, ne_eq] at hp
        obtain ⟨hTc, hne⟩ := hp
        rw [List.mem_range] at hc
        obtain ⟨l, hl, hlc⟩ : ∃ l, l < 2 * Z.n ∧ l / 2 = c := ⟨2 * c, by omega, by omega⟩
        have hTl : T (l / 2) = false := by rw [hlc]; exact hTc
        have f1 : V K A SA (lf dA rA hDA (fl h c)) = V K B SB (lf dB rB hDB (fl h c)) := by
          refine ihj _ ?_
          have := countP_but (l := List.range Z.n) List.nodup_range (p := fun c => !T c && (h c != h0 c)) (q := fun d => !T d && (fl h c d != h0 d)) (x := c) (List.mem_range.2 hc) (by simp [hTc, hne]) fun d _ => by
            by_cases k : d = c
            · subst k
              rw [fl_same]
              have : (!h d) = h0 d := by
                revert hne
                cases h d <;> cases h0 d <;> simp
              simp [this]
            · simp [fl_ne k, k]
          omega
        have f2 : V K A (ad SA (eA l / 2)) (lf dA rA hDA h) = V K B (ad SB (eB l / 2)) (lf dB rB hDB h) := by
          have hlv := Z.live_ad hc hTc
          refine ih (Z.live (ad T c)) (by omega) (ad T c) rfl _ _ (by rw [← hlc]; exact RA.ad EA hl hTl) (by rw [← hlc]; exact RB.ad EB hl hTl) (TA.ad EA hl) (TB.ad EB hl) (fun y u k1 y' u' k2 m hm => ?_) ?_ h
          · have a1 := (TA.mem _ (by rw [k1]; exact lst_mem u y)).2.1
            have a2 := (TB.mem _ (by rw [k2]; exact lst_mem u' y')).2.1
            rw [via_ad EA hl a1, via_ad EB hl a2]
            exact hC y u k1 y' u' k2 m hm
          · obtain ⟨p1, p2⟩ := A.k_ad (S := SA) (EA.lt l hl) (by rw [RA.st l hl]; exact hTl)
            obtain ⟨q1, q2⟩ := B.k_ad (S := SB) (EB.lt l hl) (by rw [RB.st l hl]; exact hTl)
            rw [← EA.mt l hl] at p1 p2
            rw [← EB.mt l hl] at q1 q2
            have o1 := RA.orb EA hl (mt_lt.2 hl)
            have o2 := RB.orb EB hl (mt_lt.2 hl)
            by_cases o : Orb (Z.nS T) l (mt l)
            · have := p1 (o1.2 o)
              have := q1 (o2.2 o)
              omega
            · have := p2 fun k => o (o1.1 k)
              have := q2 fun k => o (o2.1 k)
              omega
        have s1 : V K A SA (fl (lf dA rA hDA h) (eA l / 2)) = V K A SA (lf dA rA hDA (fl h c)) := V_congr K A fun d d1 _ => by rw [← hlc]; exact (lf_fl EA hl d1).symm
        have s2 : V K B SB (fl (lf dB rB hDB h) (eB l / 2)) = V K B SB (lf dB rB hDB (fl h c)) := V_congr K B fun d d1 _ => by rw [← hlc]; exact (lf_fl EB hl d1).symm
        have g1 : sgh A (lf dA rA hDA h) (eA l / 2) = sgh B (lf dB rB hDB h) (eB l / 2) := by
          rw [sgh_ov, sgh_ov, ov_lf EA hl, ov_lf EB hl, EA.sg l hl, EB.sg l hl]
        have ca : eA l / 2 < A.n := by have := EA.lt l hl; omega
        have cb : eB l / 2 < B.n := by have := EB.lt l hl; omega
        rw [skein K A SA _ ca (by rw [RA.st l hl]; exact hTl), skein K B SB _ cb (by rw [RB.st l hl]; exact hTl), s1, s2, f1, f2, g1]
    exact key _ h rfl
end
end Go.Proofs.Ytlicglicfijelaa.Kn

/- A face of two sides taken out: what is left may be, and is planar: plain mathematics. -/
namespace Go.Proofs.Ytlicglicfijelaa.Kn
section
variable {X : List Cr}
theorem off {x y s t : Nat} (h : x ≠ y) : ((x, s) : Pl) ≠ (y, t) := fun e => h (by injection e)
end
end Go.Proofs.Ytlicglicfijelaa.Kn

/- How many crossings are left, and rings: plain mathematics. -/
namespace Go.Proofs.Ytlicglicfijelaa.Kn
section
variable {X : List Cr}
theorem two_filters (p : Nat → Bool) : ∀ l : List Nat, (l.filter fun c => !p c).length + (l.filter p).length = l.length
  | [] => rfl
  | x :: l => by
    have := two_filters p l
    cases h : p x <;> simp [h] <;> omega
theorem kept_add (n : Nat) (gone : Nat → Bool) : (kept n gone).length + ((List.range n).filter gone).length = n := by
  unfold kept
  rw [two_filters, List.length_range]
theorem kept_only {n c : Nat} (hc : c < n) : (kept n (only c)).length + 1 = n := by
  have h := kept_add n (only c)
  have : ((List.range n).filter (only c)).length = 1 := by
    have P : ((List.range n).filter (only c)).Perm [c] := by
      refine (List.perm_ext_iff_of_nodup (List.nodup_range.sublist List.filter_sublist) (by simp)).2 fun x => ?_
      rw [List.mem_filter, List.mem_range, List.mem_singleton]
      simp only [only, decide_eq_true_eq]
      exact ⟨fun h => h.2, fun h => ⟨h ▸ hc, h⟩⟩
    exact P.length_eq
  omega
end
end Go.Proofs.Ytlicglicfijelaa.Kn

/- A diagram some of whose crossings are taken out: its letters are those left: plain mathematics. -/
namespace Go.Proofs.Ytlicglicfijelaa.Kn

theorem via_ex {dead : Nat → Bool} {f : Nat → Nat} {N : Nat} (hf : Pm N f) {x : Nat} (hx : dead x = false) : ∃ z, Via dead f x z := by
  obtain ⟨n, hn, e⟩ := hf.cycle x
  have key : ∀ (n : Nat) (x : Nat), dead (it f (n + 1) x) = false → ∃ z, Via dead f x z := by
    intro n
    induction n with
    | zero => intro x h; exact ⟨f x, .one h⟩
    | succ n ih =>
      intro x h
      cases c : dead (f x) with
      | false => exact ⟨f x, .one c⟩
      | true =>
        have e1 := it_add f 1 x (n + 1)
        obtain ⟨z, hz⟩ := ih (f x) (by
          have : it f (n + 1) (f x) = it f (n + 1 + 1) x := e1.symm
          rw [this]; exact h)
        exact ⟨z, .more c hz⟩
  obtain ⟨m, rfl⟩ : ∃ m, n = m + 1 := ⟨n - 1, by omega⟩
  exact key m x (by rw [e]; exact hx)
def ain (X : List Cr) (x : Nat) : Nat := arcN X (ip X x)
section
variable {X : List Cr}
theorem Ok.ain_nx (h : Ok X) {x : Nat} (hx : x < 2 * X.length) : ain X (nxA X x) = arcN X (outA X x) := by
  unfold ain
  rw [h.ip_nx hx, h.arc_other (outA_pl hx)]
theorem Ok.ain_inj (h : Ok X) {x y : Nat} (hx : x < 2 * X.length) (hy : y < 2 * X.length) (e : ain X x = ain X y) : x = y := by
  refine ip_inj (h.uniq _ _ (ip_isPl hx) (ip_isPl hy) (by rw [ip_cm, ip_cm]) ?_)
  rw [← h.arcN_eq (ip_isPl hx), ← h.arcN_eq (ip_isPl hy)]
  exact congrArg _ e
theorem Ok.ain_arc (h : Ok X) {x : Nat} (hx : x < 2 * X.length) : Kn.isArc X (ain X x) := h.isArc (ip_isPl hx)
theorem Ok.ain_all (h : Ok X) {a : Nat} (ha : Kn.isArc X a) : ∃ x, x < 2 * X.length ∧ ain X x = a := by
  have hp := h.isPl_end (io := true) ha
  have hc := h.cm_end (io := true) ha
  refine ⟨Kn.lt (endP X true a), lt_lt hp, ?_⟩
  unfold ain
  rw [ip_lt hc, h.arc_end ha]
/- letters of the smaller diagram -/
def eK (n : Nat) (gone : Nat → Bool) (l : Nat) : Nat := 2 * (kept n gone).getD (l / 2) 0 + l % 2
def rK (n : Nat) (gone : Nat → Bool) (x : Nat) : Nat := 2 * (kept n gone).idxOf (x / 2) + x % 2
def dK (gone : Nat → Bool) (x : Nat) : Bool := gone (x / 2)
theorem kept_nodup (n : Nat) (gone : Nat → Bool) : (kept n gone).Nodup := List.nodup_range.filter _
theorem kept_idx {n : Nat} {gone : Nat → Bool} {i : Nat} (h : i < (kept n gone).length) : (kept n gone).idxOf ((kept n gone).getD i 0) = i := by
  rw [List.getD_eq_getElem?_getD, List.getElem?_eq_getElem h]
  have := (kept_nodup n gone).idxOf_getElem i h
  exact this
theorem idx_kept {n c : Nat} {gone : Nat → Bool} (hc : c < n) (hg : gone c = false) : (kept n gone).idxOf c < (kept n gone).length ∧ (kept n gone).getD ((kept n gone).idxOf c) 0 = c := by
  have h1 := List.idxOf_lt_length_of_mem (mem_kept.2 ⟨hc, hg⟩)
  refine ⟨h1, ?_⟩
  rw [List.getD_eq_getElem?_getD, List.getElem?_eq_getElem h1]
  exact List.getElem_idxOf h1
theorem mt_two (c b : Nat) (hb : b < 2) : mt (2 * c + b) = 2 * c + (1 - b) := by unfold mt; split <;> omega
theorem ip_two {l c b : Nat} (hl : l = 2 * c + b) (hb : b < 2) : ip X l = (c, if b = 0 then 0 else over (cr X c).p) := by
  unfold ip
  have h1 : l / 2 = c := by omega
  have h2 : l % 2 = b := by omega
  rw [h1, h2]
variable {f : Nat → Nat} {gone : Nat → Bool}
theorem ip_eK {l : Nat} (hl : l < 2 * (withL X f gone).length) : ip X (eK X.length gone l) = onP (fun i => (kept X.length gone).getD i 0) (ip (withL X f gone) l) := by
  have hi : l / 2 < (kept X.length gone).length := by rw [← withL_len (X := X) (f := f)]; omega
  rw [ip_two (X := X) (l := eK X.length gone l) (c := (kept X.length gone).getD (l / 2) 0) (b := l % 2) rfl (by omega), ip_two (X := withL X f gone) (l := l) (c := l / 2) (b := l % 2) (by omega) (by omega)]
  unfold onP
  simp only
  rw [withL_cr hi]; rfl
theorem out_eK {l : Nat} (hl : l < 2 * (withL X f gone).length) : outA X (eK X.length gone l) = onP (fun i => (kept X.length gone).getD i 0) (outA (withL X f gone) l) := by
  unfold outA
  rw [ip_eK hl]; rfl
theorem eK_emb (hX : Ok X) (hY : Ok (withL X f gone)) (L L' : Nat) : Emb (hX.ar L) (hY.ar L') (eK X.length gone) (rK X.length gone) (dK gone) := by
  have len : (withL X f gone).length = (kept X.length gone).length := withL_len
  have hi : ∀ l, l < 2 * (withL X f gone).length → l / 2 < (kept X.length gone).length := fun l hl => by omega
  have hd : ∀ l, eK X.length gone l / 2 = (kept X.length gone).getD (l / 2) 0 := fun l => by unfold eK; omega
  have hm : ∀ l, eK X.length gone l % 2 = l % 2 := fun l => by unfold eK; omega
  refine ⟨fun l hl => ?_, fun l hl => ?_, fun l hl => ?_, fun l hl => ?_, fun x hx hxd => ?_, fun l hl => ?_⟩
  · have := (kept_lt (X := X) (gone := gone) (hi l hl)).1
    show eK X.length gone l < 2 * X.length
    unfold eK; omega
  · show eK X.length gone (mt l) = mt (eK X.length gone l)
    have e1 : eK X.length gone l = 2 * (kept X.length gone).getD (l / 2) 0 + l % 2 := rfl
    rw [e1, mt_two _ _ (by omega)]
    unfold eK
    rw [mt_div, mt_mod]
  · unfold rK
    rw [hd, hm, kept_idx (hi l hl)]; omega
  · unfold dK
    rw [hd]
    exact (kept_lt (X := X) (gone := gone) (hi l hl)).2
  · have hx : x < 2 * X.length := hx
    obtain ⟨h1, h2⟩ := idx_kept (n := X.length) (c := x / 2) (gone := gone) (by omega) hxd
    have hl : rK X.length gone x < 2 * (withL X f gone).length := by unfold rK; rw [len]; omega
    refine ⟨hl, ?_⟩
    unfold eK
    have e1 : rK X.length gone x / 2 = (kept X.length gone).idxOf (x / 2) := by unfold rK; omega
    have e2 : rK X.length gone x % 2 = x % 2 := by unfold rK; omega
    rw [e1, e2, h2]; omega
  · show (if eK X.length gone l % 2 = 1 then (cr X (eK X.length gone l / 2)).p else !(cr X (eK X.length gone l / 2)).p) = if l % 2 = 1 then (cr (withL X f gone) (l / 2)).p else !(cr (withL X f gone) (l / 2)).p
    rw [hm, hd, withL_cr (hi l hl)]; rfl
/- where what is gone ties the arcs that follow one another -/
structure Ties (X : List Cr) (hX : Ok X) (f : Nat → Nat) (gone : Nat → Bool) (es : Prs) (o : Pl → Pl) (S : St) : Prop where
  rep : Rep f (com (fun x => x) es)
  tied : Tied X (fun p => isPl X p ∧ gone p.1 = false) (com (fun x => x) es) o
  es_ : ∀ e ∈ es, ∃ x, x < 2 * X.length ∧ gone (x / 2) = true ∧ (e = (ain X x, ain X ((hX.ar 0).nS S x)) ∨ e = (ain X ((hX.ar 0).nS S x), ain X x))
  in_ : ∀ x, x < 2 * X.length → gone (x / 2) = true → com (fun x => x) es (ain X x) (ain X ((hX.ar 0).nS S x))
  st : ∀ c, c < X.length → gone c = false → S c = false
variable {es : Prs} {o : Pl → Pl} {S : St}
theorem Ties.cut {hX : Ok X} (h : Ties X hX f gone es o S) : Cut X (withL X f gone) (fun i => (kept X.length gone).getD i 0) (fun a => numF X f gone (f a)) (fun p => isPl X p ∧ gone p.1 = false) (com (fun x => x) es) o :=
  with_cut hX h.rep (com_id_equiv _) h.tied fun _ => Iff.rfl
theorem Ties.ok {hX : Ok X} (h : Ties X hX f gone es o S) : Ok (withL X f gone) := h.cut.okY
theorem nS_ar (hX : Ok X) (L : Nat) (S : St) : (hX.ar L).nS S = (hX.ar 0).nS S := rfl
theorem Ties.via_tie {hX : Ok X} (h : Ties X hX f gone es o S) {x z : Nat} (hv : Via (dK gone) ((hX.ar 0).nS S) x z) (hx : x < 2 * X.length) : com (fun x => x) es (ain X ((hX.ar 0).nS S x)) (ain X z) := by
  induction hv with
  | one _ => exact (com_id_equiv es).refl _
  | more hd _ ih =>
    have hy := ((hX.ar 0).nS_pm S).lt _ hx
    exact (com_id_equiv es).trans (h.in_ _ hy hd) (ih hy)
theorem Ties.red {hX : Ok X} (h : Ties X hX f gone es o S) (L L' : Nat) : Red (hX.ar L) (h.ok.ar L') (eK X.length gone) (dK gone) S (fun _ => false) := by
  have hE := eK_emb (f := f) hX h.ok L L'
  have hd : ∀ l, eK X.length gone l / 2 = (kept X.length gone).getD (l / 2) 0 := fun l => by unfold eK; omega
  have hst : ∀ l, l < 2 * (withL X f gone).length → S (eK X.length gone l / 2) = false := fun l hl => by
    have hi : l / 2 < (kept X.length gone).length := by rw [← withL_len (X := X) (f := f)]; omega
    have := kept_lt (X := X) (gone := gone) hi
    rw [hd]
    exact h.st _ this.1 this.2
  refine ⟨fun l hl => hst l hl, fun l hl => ?_⟩
  have hl : l < 2 * (withL X f gone).length := hl
  have he : eK X.length gone l < 2 * X.length := hE.lt l hl
  obtain ⟨z, hz⟩ := via_ex (dead := dK gone) ((hX.ar 0).nS_pm S) (x := eK X.length gone l) (hE.live l hl)
  have hz2 : z < 2 * X.length := hz.orb.lt ((hX.ar 0).nS_pm S) he
  have h1 := h.via_tie hz he
  have h2 : (hX.ar 0).nS S (eK X.length gone l) = nxA X (eK X.length gone l) := by
    show (if S (eK X.length gone l / 2) = true ∧ _ then _ else _) = _
    rw [hst l hl, if_neg (by simp)]; rfl
  rw [h2, hX.ain_nx he, out_eK hl] at h1
  have hY := h.ok
  have ho := outA_pl (X := withL X f gone) hl
  have hnx : nxA (withL X f gone) l < 2 * (withL X f gone).length := hY.nx_pm.lt l hl
  have h3 := h.cut.other ho
  rw [← hY.ip_nx hl, ← ip_eK hnx] at h3
  have lv := h.cut.liv ho
  have h4 : ip X z = o (onP (fun i => (kept X.length gone).getD i 0) (outA (withL X f gone) l)) := by
    refine h.tied.un _ _ ⟨ip_isPl hz2, hz.live⟩ (h.tied.lv _ lv) ?_ ?_
    · rw [ip_cm, h.tied.op _ lv, ← h.cut.cm ho, outA_cm hl]; rfl
    · exact (com_id_equiv es).trans ((com_id_equiv es).symm h1) (h.tied.eq _ lv)
  rw [← h3] at h4
  have h5 : z = eK X.length gone (nxA (withL X f gone) l) := ip_inj h4
  have h6 : (h.ok.ar L').nS (fun _ => false) l = nxA (withL X f gone) l := by
    show (if (fun _ => false) (l / 2) = true ∧ _ then _ else _) = _
    rw [if_neg (by simp)]; rfl
  rw [h6, ← h5]
  exact hz
/- words none of whose letters are left are rings -/
theorem Ties.rings {hX : Ok X} (h : Ties X hX f gone es o S) (L : Nat) : (hX.ar L).k S = (h.ok.ar (L + ringN X f gone)).k (fun _ => false) := by
  have hE := eK_emb (f := f) hX h.ok L (L + ringN X f gone)
  have hR := h.red L (L + ringN X f gone)
  obtain ⟨ws, hW⟩ := (hX.ar L).ws_ex S
  have hpm := (hX.ar L).nS_pm S
  have hZ := hW.fil hE hR
  rw [Ws.k_eq _ hW, Ws.k_eq _ hZ]
  show ws.length + L = (fil (dK gone) (rK X.length gone) ws).length + (L + ringN X f gone)
  -- each word without a letter that is left has one root that is not left; others have none
  obtain ⟨Q, hQ⟩ : ∃ Q : Nat → Bool, ∀ x, Q x = (decide (f (ain X x) = ain X x) && !leftB X f gone (ain X x)) := ⟨_, fun _ => rfl⟩
  have hr : ringN X f gone = (List.range (2 * X.length)).countP Q := by
    have p1 : ((List.range (2 * X.length)).map (ain X)).Perm ((List.range (nArcs X)).map (· + 1)) := by
      refine (List.perm_ext_iff_of_nodup (map_nodup List.nodup_range fun x hx y hy e => hX.ain_inj (List.mem_range.1 hx) (List.mem_range.1 hy) e) (map_nodup List.nodup_range fun x _ y _ e => by
        have e : x + 1 = y + 1 := e
        omega)).2 fun a => ?_
      rw [List.mem_map, List.mem_map]
      constructor
      · rintro ⟨x, hx, rfl⟩
        obtain ⟨q1, q2⟩ := hX.ain_arc (List.mem_range.1 hx)
        exact ⟨ain X x - 1, List.mem_range.2 (by omega), by show ain X x - 1 + 1 = _; omega⟩
      · rintro ⟨b, hb, rfl⟩
        rw [List.mem_range] at hb
        obtain ⟨x, hx, e⟩ := hX.ain_all (a := b + 1) ⟨by omega, by omega⟩
        exact ⟨x, List.mem_range.2 hx, e⟩
    have p2 := p1.countP_eq fun a => decide (f a = a) && !leftB X f gone a
    rw [List.countP_map, List.countP_map] at p2
    unfold ringN
    have e1 : (List.range (nArcs X)).countP (fun a => decide (f (a + 1) = a + 1) && !leftB X f gone (a + 1)) = (List.range (nArcs X)).countP ((fun a => decide (f a = a) && !leftB X f gone a) ∘ (· + 1)) := rfl
    rw [e1, ← p2]
    exact List.countP_congr fun x _ => by rw [hQ]; rfl
  have hE' := com_id_equiv es
  have sameW : ∀ {w : List Nat}, w ∈ ws → ∀ {a b : Nat}, com (fun x => x) es a b → (∃ x ∈ w, ain X x = a) → (∃ x ∈ w, ain X x = b) := by
    intro w hw a b k
    have hcy := hW.cyc w hw
    have eqv : Equivalence (fun a b : Nat => (∃ x ∈ w, ain X x = a) ↔ (∃ x ∈ w, ain X x = b)) := ⟨fun _ => Iff.rfl, fun h => h.symm, fun h1 h2 => h1.trans h2⟩
    refine (com_least eqv (fun x => Iff.rfl) (fun e he => ?_) k).1
    obtain ⟨x, hx, hg, he'⟩ := h.es_ e he
    have step : (∃ y ∈ w, ain X y = ain X x) ↔ (∃ y ∈ w, ain X y = ain X ((hX.ar 0).nS S x)) := by
      have hnx := hpm.lt x hx
      constructor
      · rintro ⟨y, hy, e⟩
        have hy2 : y < 2 * X.length := hW.mem.1 (List.mem_flatten.2 ⟨w, hw, hy⟩)
        have := hX.ain_inj hy2 hx e
        subst this
        exact ⟨_, cy_closed hcy hy, rfl⟩
      · rintro ⟨y, hy, e⟩
        have hy2 : y < 2 * X.length := hW.mem.1 (List.mem_flatten.2 ⟨w, hw, hy⟩)
        have := hX.ain_inj hy2 hnx e
        subst this
        exact ⟨x, cy_orb hcy hy (hpm.back x), rfl⟩
    rcases he' with rfl | rfl
    · exact step
    · exact step.symm
  have one : ∀ w ∈ ws, w.countP Q = if fw (dK gone) (rK X.length gone) w = [] then 1 else 0 := by
    intro w hw
    have hcy := hW.cyc w hw
    have hlt : ∀ x ∈ w, x < 2 * X.length := fun x hx => hW.mem.1 (List.mem_flatten.2 ⟨w, hw, hx⟩)
    have hwn : w.Nodup := word_nodup hW.nodup hw
    by_cases c : fw (dK gone) (rK X.length gone) w = []
    · rw [if_pos c]
      have dead : ∀ x ∈ w, gone (x / 2) = true := fun x hx => by
        unfold fw at c
        rw [List.map_eq_nil_iff, List.filter_eq_nil_iff] at c
        have := c x hx
        unfold dK at this
        simpa using this
      obtain ⟨a, ha⟩ := List.exists_mem_of_ne_nil w (cy_ne hcy)
      -- all arcs of the word are tied
      have tie : ∀ x ∈ w, com (fun x => x) es (ain X a) (ain X x) := fun x hx => by
        have := cy_all hcy ha hx
        exact (this.ind (P := fun x => x ∈ w ∧ com (fun x => x) es (ain X a) (ain X x)) (fun y hy => ⟨cy_closed hcy hy.1, hE'.trans hy.2 (h.in_ y (hlt y hy.1) (dead y hy.1))⟩) ⟨ha, hE'.refl _⟩).2
      obtain ⟨b, hb, hab⟩ := sameW hw (a := ain X a) (b := f (ain X a)) ((h.rep.iff _ _).1 (h.rep.idem _).symm) ⟨a, ha, rfl⟩
      have hQb : Q b = true := by
        rw [hQ, hab, h.rep.idem]
        have : leftB X f gone (f (ain X a)) = false := by
          rw [← Bool.not_eq_true, leftB_iff]
          rintro ⟨p, hp, hg, e⟩
          -- the letter of the arc at p lies in the word
          obtain ⟨y, hy, ey⟩ := sameW hw ((h.rep.iff _ _).1 e.symm) ⟨a, ha, rfl⟩
          have hy2 := hlt y hy
          have hip : ip X y = p ∨ ip X y = other X p := by
            have := (hX.arc_eq (ip_isPl hy2) hp).1 ey
            rcases this with k | k
            · exact .inl k.symm
            · right; rw [k, hX.other_other (ip_isPl hy2)]
          rcases hip with k | k
          · have := dead y hy
            rw [← ip_one X y, k, hg] at this; cases this
          · -- the letter ahead of y is at p's crossing
            have hyc : cm X p = false := by
              have := ip_cm X y
              rw [k, hX.cm_other hp] at this
              simpa using this
            obtain ⟨u, hu, eu⟩ : ∃ u, u < 2 * X.length ∧ outA X u = p := by
              have q := isPl_turn hp 2
              have qc : cm X (p.1, (p.2 + 2) % 4) = true := by rw [cm_opp hp, hyc]; rfl
              refine ⟨Kn.lt (p.1, (p.2 + 2) % 4), lt_lt q, ?_⟩
              unfold outA
              rw [ip_lt qc]
              refine Prod.ext rfl ?_
              have := hp.2
              simp only; omega
            have hu1 : u / 2 = p.1 := by rw [← ip_one X u, ← eu]; rfl
            have hSu : S (u / 2) = false := by rw [hu1]; exact h.st _ hp.1 hg
            have e1 : (hX.ar 0).nS S u = y := by
              have : (hX.ar 0).nS S u = nxA X u := by
                show (if S (u / 2) = true ∧ _ then _ else _) = _
                rw [hSu, if_neg (by simp)]; rfl
              rw [this]
              refine ip_inj (Y := X) ?_
              rw [hX.ip_nx hu, eu, k]
            have : u ∈ w := cy_orb hcy hy (by
              have := hpm.back u
              rw [nS_ar hX L S] at this
              rwa [e1] at this)
            have := dead u this
            rw [hu1, hg] at this; cases this
        simp [this]
      have h0 := countP_but (l := w) hwn (p := Q) (q := fun _ => false) hb hQb fun d hd => by
        by_cases e : d = b
        · simp [e]
        · have : Q d = false := by
            rw [hQ]
            have hfd : f (ain X d) = f (ain X a) := (h.rep.iff _ _).2 (hE'.symm (tie d hd))
            have : ¬ f (ain X d) = ain X d := fun k => e (hX.ain_inj (hlt d hd) (hlt b hb) (by rw [← k, hfd, hab]))
            simp [this]
          simp [this]
      rw [← h0]; simp
    · rw [if_neg c, List.countP_eq_zero]
      intro y hy hQy
      rw [hQ] at hQy
      simp only [Bool.and_eq_true, decide_eq_true_eq, Bool.not_eq_true'] at hQy
      -- the first letter that is left, from y on
      have live : ∃ z, z ∈ w ∧ gone (z / 2) = false ∧ com (fun x => x) es (ain X y) (ain X z) := by
        by_cases g : gone (y / 2) = false
        · exact ⟨y, hy, g, hE'.refl _⟩
        · have g : gone (y / 2) = true := by simpa using g
          obtain ⟨x, hx, hgx⟩ : ∃ x ∈ w, gone (x / 2) = false := Classical.byContradiction fun k => c (by
            unfold fw
            rw [List.map_eq_nil_iff, List.filter_eq_nil_iff]
            intro x hx
            unfold dK
            cases e : gone (x / 2) with
            | true => simp
            | false => exact absurd ⟨x, hx, e⟩ k)
          have : ∃ z, Via (dK gone) ((hX.ar 0).nS S) y z := by
            obtain ⟨n, hn⟩ := cy_all hcy hy hx
            have gen : ∀ (n : Nat) (y : Nat), dK gone y = true → dK gone (it ((hX.ar 0).nS S) n y) = false → ∃ z, Via (dK gone) ((hX.ar 0).nS S) y z := by
              intro n
              induction n with
              | zero => intro y h1 h2; rw [show it ((hX.ar 0).nS S) 0 y = y from rfl, h1] at h2; cases h2
              | succ n ih =>
                intro y h1 h2
                cases e : dK gone ((hX.ar 0).nS S y) with
                | false => exact ⟨_, .one e⟩
                | true =>
                  have e1 := it_add ((hX.ar 0).nS S) 1 y n
                  obtain ⟨z, hz⟩ := ih ((hX.ar 0).nS S y) e (by
                    have : it ((hX.ar 0).nS S) n ((hX.ar 0).nS S y) = it ((hX.ar 0).nS S) (n + 1) y := e1.symm
                    rw [this]; exact h2)
                  exact ⟨z, .more e hz⟩
            exact gen n y g (by
              have hn : it ((hX.ar 0).nS S) n y = x := hn
              rw [hn]; exact hgx)
          obtain ⟨z, hz⟩ := this
          refine ⟨z, cy_orb hcy hy hz.orb, hz.live, ?_⟩
          exact hE'.trans (h.in_ y (hlt y hy) g) (h.via_tie hz (hlt y hy))
      obtain ⟨z, hzw, hzg, hzc⟩ := live
      have : leftB X f gone (ain X y) = true := leftB_iff.2 ⟨ip X z, ip_isPl (hlt z hzw), hzg, by
        have := (h.rep.iff _ _).2 hzc
        show f (ain X z) = ain X y
        rw [← this]; exact hQy.1⟩
      rw [this] at hQy
      exact absurd hQy.2 (by simp)
  have tot : ringN X f gone = (ws.map fun w => if fw (dK gone) (rK X.length gone) w = [] then 1 else 0).sum := by
    have e0 : ws.flatten.countP Q = (List.range (2 * X.length)).countP Q := hW.perm.countP_eq Q
    rw [hr, ← e0, countP_flatten']
    congr 1
    exact List.map_congr_left fun w hw => one w hw
  rw [tot]
  have fin : ∀ vs : List (List Nat), vs.length = (fil (dK gone) (rK X.length gone) vs).length + (vs.map fun w => if fw (dK gone) (rK X.length gone) w = [] then 1 else 0).sum := by
    intro vs
    induction vs with
    | nil => rfl
    | cons v vs ih =>
      rw [fil_cons, List.map_cons, List.sum_cons, List.length_cons]
      by_cases c : fw (dK gone) (rK X.length gone) v = []
      · rw [if_pos c, if_pos c]; omega
      · rw [if_neg c, if_neg c, List.length_cons]; omega
  have := fin ws
  omega
end
end Go.Proofs.Ytlicglicfijelaa.Kn
