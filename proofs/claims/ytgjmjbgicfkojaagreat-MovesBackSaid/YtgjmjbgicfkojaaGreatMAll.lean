/- Plain mathematics of diagrams, joined: the second half. -/
import Derived.Test.YtgjmjbgicfkojaaGreatMAlla

namespace Go.Proofs.YtgjmjbgicfkojaaGreat.Kn

def ip (Y : List Cr) (k : Nat) : Pl := (k / 2, if k % 2 = 0 then 0 else over (cr Y (k / 2)).p)
theorem over_lt (p : Bool) : over p < 4 := by cases p <;> decide
theorem over_pos (p : Bool) : over p ≠ 0 := by cases p <;> decide
theorem ip_pl {Y : List Cr} {k : Nat} (hk : k < nArcs Y) : isPl Y (ip Y k) := by
  unfold nArcs at hk
  refine ⟨by show k / 2 < _; omega, ?_⟩
  show (if k % 2 = 0 then 0 else over (cr Y (k / 2)).p) < 4
  split
  · omega
  · exact over_lt _
theorem ip_cm (Y : List Cr) (k : Nat) : cm Y (ip Y k) = true := by
  unfold cm ip Cr.comes
  simp only
  split <;> simp
theorem ip_inj {Y : List Cr} {j k : Nat} (h : ip Y j = ip Y k) : j = k := by
  unfold ip at h
  injection h with h1 h2
  rw [h1] at h2
  by_cases c : j % 2 = 0 <;> by_cases d : k % 2 = 0
  · omega
  · rw [if_pos c, if_neg d] at h2; exact absurd h2.symm (over_pos _)
  · rw [if_neg c, if_pos d] at h2; exact absurd h2 (over_pos _)
  · omega
theorem ip_all {Y : List Cr} {p : Pl} (hp : isPl Y p) (hc : cm Y p = true) : ∃ k, k < nArcs Y ∧ ip Y k = p := by
  obtain ⟨c, s⟩ := p; obtain ⟨h1, h2⟩ := hp; simp only at h1 h2
  unfold cm Cr.comes at hc
  simp only [Bool.or_eq_true, decide_eq_true_eq] at hc
  unfold nArcs ip
  rcases hc with rfl | hs
  · exact ⟨2 * c, by omega, by rw [show 2 * c / 2 = c by omega, if_pos (by omega)]⟩
  · exact ⟨2 * c + 1, by omega, by rw [show (2 * c + 1) / 2 = c by omega, if_neg (by omega), hs]⟩

structure Cut (X Y : List Cr) (f g : Nat → Nat) (live : Pl → Prop) (E : Nat → Nat → Prop) (o : Pl → Pl) : Prop where
  ok : Ok X
  mono : ∀ i j, i < j → j < Y.length → f i < f j
  lt : ∀ i, i < Y.length → f i < X.length
  alive : ∀ p, isPl X p → (live p ↔ ∃ i, i < Y.length ∧ f i = p.1)
  cr_ : ∀ i, i < Y.length → cr Y i = (cr X (f i)).ren g
  tied : Tied X live E o
  eqv : Equivalence E
  same : ∀ p q, live p → live q → (g (arcN X p) = g (arcN X q) ↔ E (arcN X p) (arcN X q))
  rng : ∀ p, live p → 1 ≤ g (arcN X p) ∧ g (arcN X p) ≤ nArcs Y
section
variable {X Y : List Cr} {f g : Nat → Nat} {live : Pl → Prop} {E : Nat → Nat → Prop} {o : Pl → Pl}
theorem Cut.inj (h : Cut X Y f g live E o) {i j : Nat} (hi : i < Y.length) (hj : j < Y.length) (e : f i = f j) : i = j := by
  rcases Nat.lt_trichotomy i j with c | c | c
  · have := h.mono i j c hj; omega
  · exact c
  · have := h.mono j i c hi; omega
theorem Cut.pl (h : Cut X Y f g live E o) {p : Pl} (hp : isPl Y p) : isPl X (onP f p) := ⟨h.lt _ hp.1, hp.2⟩
theorem Cut.liv (h : Cut X Y f g live E o) {p : Pl} (hp : isPl Y p) : live (onP f p) := (h.alive _ (h.pl hp)).2 ⟨p.1, hp.1, rfl⟩
theorem Cut.back (h : Cut X Y f g live E o) {q : Pl} (hq : live q) : ∃ p, isPl Y p ∧ onP f p = q := by
  obtain ⟨i, hi, e⟩ := (h.alive q (h.tied.isP q hq)).1 hq
  exact ⟨(i, q.2), ⟨hi, (h.tied.isP q hq).2⟩, by unfold onP; rw [e]⟩
theorem Cut.at_ (h : Cut X Y f g live E o) {p : Pl} (hp : isPl Y p) : at_ Y p = (g (arcN X (onP f p)) : Nat) := by
  unfold Kn.at_ arcN Kn.at_ onP
  rw [h.cr_ _ hp.1, ren_arc]
theorem Cut.arcN (h : Cut X Y f g live E o) {p : Pl} (hp : isPl Y p) : arcN Y p = g (arcN X (onP f p)) := by unfold Kn.arcN; rw [h.at_ hp]; rfl
theorem Cut.cm (h : Cut X Y f g live E o) {p : Pl} (hp : isPl Y p) : cm Y p = cm X (onP f p) := by
  unfold Kn.cm onP
  rw [h.cr_ _ hp.1]; rfl
theorem Cut.onP_inj (h : Cut X Y f g live E o) {p q : Pl} (hp : isPl Y p) (hq : isPl Y q) (e : onP f p = onP f q) : p = q := by
  obtain ⟨a, b⟩ := p; obtain ⟨c, d⟩ := q
  unfold onP at e
  injection e with e1 e2
  simp only at e1 e2; have e3 : a = c := h.inj hp.1 hq.1 e1; rw [e3, e2]
theorem Cut.uniq (h : Cut X Y f g live E o) {p q : Pl} (hp : isPl Y p) (hq : isPl Y q) (hc : Kn.cm Y p = Kn.cm Y q) (ha : Kn.at_ Y p = Kn.at_ Y q) : p = q := by
  rw [h.at_ hp, h.at_ hq, Int.ofNat_inj] at ha
  exact h.onP_inj hp hq (h.tied.un _ _ (h.liv hp) (h.liv hq) (by rw [← h.cm hp, ← h.cm hq, hc]) ((h.same _ _ (h.liv hp) (h.liv hq)).1 ha))
theorem Cut.okY (h : Cut X Y f g live E o) : Ok Y := by
  refine ok_mk (fun p hp => ?_) (fun io a ha => ?_) fun p q hp hq hc ha => h.uniq hp hq hc ha
  · rw [h.at_ hp]
    have := h.rng _ (h.liv hp); omega
  · have hin : ∃ p, isPl Y p ∧ Kn.cm Y p = true ∧ Kn.at_ Y p = a := by
      have hr : ∀ k, k < nArcs Y → 1 ≤ Kn.arcN Y (ip Y k) ∧ Kn.arcN Y (ip Y k) ≤ nArcs Y := fun k hk => by
        rw [h.arcN (ip_pl hk)]; exact h.rng _ (h.liv (ip_pl hk))
      have P := inj_perm (l := List.range (nArcs Y)) List.nodup_range (f := fun k => Kn.arcN Y (ip Y k) - 1) (fun k hk => by
        rw [List.mem_range] at hk ⊢
        have := hr k hk; omega) fun j hj k hk e => by
        rw [List.mem_range] at hj hk; have h1 := hr j hj; have h2 := hr k hk
        have e : Kn.arcN Y (ip Y j) = Kn.arcN Y (ip Y k) := by omega
        rw [h.arcN (ip_pl hj), h.arcN (ip_pl hk)] at e
        refine ip_inj (h.uniq (ip_pl hj) (ip_pl hk) (by rw [ip_cm, ip_cm]) ?_)
        rw [h.at_ (ip_pl hj), h.at_ (ip_pl hk), e]
      obtain ⟨k, hk, e⟩ := List.mem_map.1 (P.mem_iff.2 (List.mem_range.2 (show a - 1 < nArcs Y by have := ha.1; have := ha.2; omega))); rw [List.mem_range] at hk
      refine ⟨ip Y k, ip_pl hk, ip_cm Y k, ?_⟩
      have h1 := hr k hk; have := ha.1
      have e2 : g (Kn.arcN X (onP f (ip Y k))) = a := by rw [← h.arcN (ip_pl hk)]; omega
      rw [h.at_ (ip_pl hk), e2]
    obtain ⟨p, hp, hc, ha'⟩ := hin
    cases io with
    | true => exact ⟨p, hp, hc, ha'⟩
    | false =>
      obtain ⟨q, hq, e⟩ := h.back (h.tied.lv _ (h.liv hp))
      refine ⟨q, hq, ?_, ?_⟩
      · rw [h.cm hq, e, h.tied.op _ (h.liv hp), ← h.cm hp, hc]; rfl
      · rw [← ha', h.at_ hq, h.at_ hp, e, Int.ofNat_inj]
        exact ((h.same _ _ (h.liv hp) (h.tied.lv _ (h.liv hp))).2 (h.tied.eq _ (h.liv hp))).symm
theorem Cut.other (h : Cut X Y f g live E o) {p : Pl} (hp : isPl Y p) : onP f (other Y p) = o (onP f p) := by
  have hY := h.okY; obtain ⟨q, hq, e⟩ := h.back (h.tied.lv _ (h.liv hp)); rw [← e]
  congr 1
  refine h.uniq (hY.isPl_other hp) hq ?_ ?_
  · rw [hY.cm_other hp, h.cm hq, e, h.tied.op _ (h.liv hp), h.cm hp]
  · rw [← hY.arcN_eq (hY.isPl_other hp), hY.arc_other hp, h.at_ hq, h.arcN hp, e, Int.ofNat_inj]
    exact (h.same _ _ (h.liv hp) (h.tied.lv _ (h.liv hp))).2 (h.tied.eq _ (h.liv hp))
end

theorem cl_emb {N M : Nat} {k : Nat → Nat} (hm : ∀ i j, i < j → j < M → k i < k j) (hk : ∀ i, i < M → k i < N) {R R' : Nat → Nat → Prop} (h : ∀ i j, i < M → j < M → (R (k i) (k j) ↔ R' i j)) (hs : ∀ y, (∀ i, i < M → k i ≠ y) → ∀ x, R x y → x = y) (hR : Equivalence R) :
    cl N R + M = cl M R' + N := by
  have hinj : ∀ x ∈ List.range M, ∀ y ∈ List.range M, k x = k y → x = y := fun x hx y hy e => by
    rw [List.mem_range] at hx hy
    rcases Nat.lt_trichotomy x y with c | c | c
    · have := hm x y c hy; omega
    · exact c
    · have := hm y x c hx; omega
  have hn1 := map_nodup (l := List.range M) List.nodup_range hinj; have hn2 : ((List.range N).filter fun y => !((List.range M).map k).contains y).Nodup := List.nodup_range.sublist List.filter_sublist
  have P : ((List.range M).map k ++ (List.range N).filter fun y => !((List.range M).map k).contains y).Perm (List.range N) := by
    refine (List.perm_ext_iff_of_nodup ?_ List.nodup_range).2 fun y => ?_
    · refine List.nodup_append.2 ⟨hn1, hn2, fun a ha b hb e => ?_⟩
      subst e; rw [List.mem_filter] at hb; have := hb.2; simp only [Bool.not_eq_true', List.contains_eq_mem, decide_eq_false_iff_not] at this
      exact this ha
    · rw [List.mem_append, List.mem_filter, List.mem_range]
      constructor
      · rintro (k1 | k1)
        · obtain ⟨i, hi, rfl⟩ := List.mem_map.1 k1
          exact hk i (List.mem_range.1 hi)
        · exact k1.1
      · intro hy
        by_cases c : y ∈ (List.range M).map k
        · exact .inl c
        · exact .inr ⟨hy, by simpa using c⟩
  have hl := P.length_eq; rw [List.length_append, List.length_map, List.length_range, List.length_range] at hl
  have hc := P.countP_eq fun d => tr (Least R d)
  rw [List.countP_append, List.countP_map] at hc
  have h1 : (List.range M).countP ((fun d => tr (Least R d)) ∘ k) = cl M R' := by
    unfold cl
    refine countP_congr' fun z hz => tr_congr ?_
    rw [List.mem_range] at hz
    constructor
    · intro l e he r
      exact l (k e) (hm e z he hz) ((h e z (by omega) hz).2 r)
    · intro l e he r
      by_cases c : ∃ i, i < M ∧ k i = e
      · obtain ⟨i, hi, rfl⟩ := c
        have : i < z := by
          rcases Nat.lt_trichotomy i z with c | c | c
          · exact c
          · subst c; omega
          · have := hm z i c hi; omega
        exact l i this ((h i z hi hz).1 r)
      · have := hs e (fun i hi he => c ⟨i, hi, he⟩) (k z) (hR.symm r)
        omega
  have h2 : ((List.range N).filter fun y => !((List.range M).map k).contains y).countP (fun d => tr (Least R d)) = ((List.range N).filter fun y => !((List.range M).map k).contains y).length := by
    refine List.countP_eq_length.2 fun y hy => tr_iff.2 fun e he r => ?_
    rw [List.mem_filter] at hy; have := hy.2; simp only [Bool.not_eq_true', List.contains_eq_mem, decide_eq_false_iff_not] at this; have := hs y (fun i hi c => this (List.mem_map.2 ⟨i, List.mem_range.2 hi, c⟩)) e r
    omega
  rw [h1, h2] at hc
  show (List.range N).countP _ + M = _
  omega
section
variable {N : Nat} {σ : Nat → Nat}
theorem Dis.len : ∀ {es : Prs}, Good N es → Dis es → cl N (Orb (mate es)) + es.length = N
  | [], _, _ => by
    show cl N (Orb fun x => x) + 0 = N
    have : cl N (Orb fun x : Nat => x) = cl N (fun x y => x = y) := cl_congr fun x y => (com_id_nil (x := x) (y := y))
    rw [this]
    unfold cl
    have hl : (List.range N).countP (fun d => tr (Least (fun x y : Nat => x = y) d)) = (List.range N).length := List.countP_eq_length.2 fun y _ => tr_iff.2 fun e he (r : e = y) => by omega
    rw [hl, List.length_range]; rfl
  | e :: es, hg, hd => by
    have i := Dis.len hg.tail hd.tail; obtain ⟨h1, h2, h3⟩ := hg e (by simp); have hp : Pm N (phi (fun x => x) es) := phi_pm ⟨fun _ h => h, fun _ _ => rfl, fun _ _ h => h⟩ hg.tail
    have hno : ¬ Orb (mate es) e.1 e.2 := by
      rintro ⟨n, hn⟩
      have : ∀ n, it (mate es) n e.1 = e.1 := fun n => by
        induction n with
        | zero => rfl
        | succ n ih => rw [it, ih, mate_out hd.out.1]
      rw [this] at hn
      exact h3 hn
    have j := cl_join (f := mate es) hp h1 h2 hno
    show cl N (Orb fun x => swp e.1 e.2 (mate es x)) + (es.length + 1) = N
    omega
theorem Flat.same (h : Pm N σ) {es es' : Prs} (hg : Good N es) (hd : Dis es) (hg' : Good N es') (hd' : Dis es') (hm : ∀ x, mate es x = mate es' x) (hf : Flat N σ es) : Flat N σ es' := by
  have e : mate es = mate es' := funext hm; have h1 := Dis.len hg hd; have h2 := Dis.len hg' hd'; rw [e] at h1
  refine hf.congr h hm (by omega) (fun d he => ?_) fun d he => ?_
  · rw [← (mate_pair hd he).1, hm]; exact com_mate h es' d.1
  · rw [← (mate_pair hd' he).1, ← hm]; exact com_mate h es d.1
end
end Go.Proofs.YtgjmjbgicfkojaaGreat.Kn

namespace Go.Proofs.YtgjmjbgicfkojaaGreat.Kn

def kP (f : Nat → Nat) (z : Nat) : Nat := f (z / 4) * 4 + z % 4
theorem kP_pk {f : Nat → Nat} {p : Pl} (hp : p.2 < 4) : kP f (pk p) = pk (onP f p) := by
  unfold kP pk onP
  simp only
  rw [show (p.1 * 4 + p.2) / 4 = p.1 by omega, show (p.1 * 4 + p.2) % 4 = p.2 by omega]
theorem mate_map {M : Nat} {k : Nat → Nat} (hk : ∀ i j, i < M → j < M → k i = k j → i = j) : ∀ {es : Prs}, Good M es → ∀ {z : Nat}, z < M → mate (es.map fun e => (k e.1, k e.2)) (k z) = k (mate es z)
  | [], _, _, _ => rfl
  | e :: es, hg, z, hz => by
    have i := mate_map hk hg.tail hz; have hw := hg.tail.mate_lt hz; obtain ⟨h1, h2, _⟩ := hg e (by simp)
    show swp (k e.1) (k e.2) (mate (es.map fun e => (k e.1, k e.2)) (k z)) = k (swp e.1 e.2 (mate es z))
    rw [i]
    by_cases c : mate es z = e.1
    · rw [c, swp_a, swp_a]
    · by_cases d : mate es z = e.2
      · rw [d, swp_b, swp_b]
      · rw [swp_ne c d, swp_ne (fun e => c (hk _ _ hw h1 e)) fun e => d (hk _ _ hw h2 e)]
theorem orb_emb {M : Nat} {k : Nat → Nat} (hk : ∀ i j, i < M → j < M → k i = k j → i = j) {φ φ' : Nat → Nat} (hl : ∀ z, z < M → φ' z < M) (he : ∀ z, z < M → φ (k z) = k (φ' z)) {i j : Nat} (hi : i < M) (hj : j < M) : Orb φ (k i) (k j) ↔ Orb φ' i j := by
  have key : ∀ n, it φ' n i < M ∧ it φ n (k i) = k (it φ' n i) := fun n => by
    induction n with
    | zero => exact ⟨hi, rfl⟩
    | succ n ih => exact ⟨hl _ ih.1, by rw [it, ih.2, he _ ih.1]; rfl⟩
  constructor
  · rintro ⟨n, hn⟩
    rw [(key n).2] at hn
    exact ⟨n, hk _ _ (key n).1 hj hn⟩
  · rintro ⟨n, hn⟩
    exact ⟨n, by rw [(key n).2, hn]⟩
theorem orb_fix {N : Nat} {φ : Nat → Nat} (h : Pm N φ) {x y : Nat} (hy : φ y = y) (k : Orb φ x y) : x = y := by
  obtain ⟨n, hn⟩ := h.symm k
  have : ∀ n, it φ n y = y := fun n => by
    induction n with
    | zero => rfl
    | succ n ih => rw [it, ih, hy]
  rw [this] at hn
  exact hn.symm
section
variable {X Y : List Cr} {f g : Nat → Nat} {live : Pl → Prop} {E : Nat → Nat → Prop} {o : Pl → Pl}
theorem Cut.planar (h : Cut X Y f g live E o) {σ : Nat → Nat} {es : Prs} (hσ : Pm (4 * X.length) σ) (hg : Good (4 * X.length) es) (hd : Dis es) (hf : Flat (4 * X.length) σ es)
    (m1 : ∀ p, live p → mate es (pk p) = pk (o p)) (m2 : ∀ z, (∀ p, live p → pk p ≠ z) → mate es z = z)
    (s1 : ∀ p, live p → σ (pk p) = sig X.length (pk p)) (s2 : ∀ z, (∀ p, live p → pk p ≠ z) → σ z = z) : planarB Y = true := by
  have hY := h.okY
  have km : ∀ i j, i < j → j < 4 * Y.length → kP f i < kP f j := fun i j hij hj => by
    unfold kP
    by_cases c : i / 4 = j / 4
    · rw [c]; omega
    · have := h.mono (i / 4) (j / 4) (by omega) (by omega)
      omega
  have ki : ∀ i j, i < 4 * Y.length → j < 4 * Y.length → kP f i = kP f j → i = j := fun i j hi hj e => by
    rcases Nat.lt_trichotomy i j with c | c | c
    · have := km i j c hj; omega
    · exact c
    · have := km j i c hi; omega
  have kl : ∀ i, i < 4 * Y.length → kP f i < 4 * X.length := fun i hi => by
    have := h.lt (i / 4) (by omega)
    unfold kP; omega
  have kpl : ∀ i, i < 4 * Y.length → kP f i = pk (onP f (Kn.pl i)) := fun i _ => rfl
  have klive : ∀ i, i < 4 * Y.length → live (onP f (Kn.pl i)) := fun i hi => h.liv (isPl_pl hi)
  have kout : ∀ y, (∀ i, i < 4 * Y.length → kP f i ≠ y) → ∀ p, live p → pk p ≠ y := fun y hy p hp e => by
    obtain ⟨q, hq, rfl⟩ := h.back hp
    refine hy (pk q) (pk_lt hq) ?_
    rw [kP_pk hq.2, e]
  have G := hY.ens_good; have D := hY.ens_dis
  have g2 : Good (4 * X.length) ((ens Y).map fun e => (kP f e.1, kP f e.2)) := fun e he => by
    obtain ⟨d, hd, rfl⟩ := List.mem_map.1 he; obtain ⟨h1, h2, h3⟩ := G d hd
    exact ⟨kl _ h1, kl _ h2, fun c => h3 (ki _ _ h1 h2 c)⟩
  have d2 : Dis ((ens Y).map fun e => (kP f e.1, kP f e.2)) := by
    unfold Dis at D ⊢
    rw [List.pairwise_map]
    refine List.Pairwise.imp_of_mem (fun {a b} ha hb k => ?_) D
    obtain ⟨a1, a2, _⟩ := G a ha; obtain ⟨b1, b2, _⟩ := G b hb
    exact ⟨fun c => k.1 (ki _ _ a1 b1 c), fun c => k.2.1 (ki _ _ a1 b2 c), fun c => k.2.2.1 (ki _ _ a2 b1 c), fun c => k.2.2.2 (ki _ _ a2 b2 c)⟩
  have mo : ∀ y, (∀ i, i < 4 * Y.length → kP f i ≠ y) → mate ((ens Y).map fun e => (kP f e.1, kP f e.2)) y = y := fun y hy => mate_out (by
    rintro ⟨e, he, k⟩; obtain ⟨d, hd, rfl⟩ := List.mem_map.1 he; obtain ⟨h1, h2, h3⟩ := G d hd
    rcases k with k | k
    · exact hy _ h1 k.symm
    · exact hy _ h2 k.symm)
  have mi : ∀ z, z < 4 * Y.length → mate ((ens Y).map fun e => (kP f e.1, kP f e.2)) (kP f z) = kP f (mate (ens Y) z) := fun z hz => mate_map ki G hz
  have mm : ∀ y, mate es y = mate ((ens Y).map fun e => (kP f e.1, kP f e.2)) y := fun y => by
    by_cases c : ∃ i, i < 4 * Y.length ∧ kP f i = y
    · obtain ⟨i, hi, rfl⟩ := c
      rw [mi i hi]; have hp := isPl_pl (X := Y) hi
      have e1 : mate (ens Y) i = pk (Kn.other Y (Kn.pl i)) := by
        have := hY.mate_pk hp
        rwa [show pk (Kn.pl i) = i by unfold pk Kn.pl; simp only; omega] at this
      rw [e1, kP_pk (hY.isPl_other hp).2, h.other hp, kpl i hi, m1 _ (klive i hi)]
    · have c' : ∀ i, i < 4 * Y.length → kP f i ≠ y := fun i hi e => c ⟨i, hi, e⟩
      rw [mo y c', m2 y (kout y c')]
  have F := hf.same hσ hg hd g2 d2 mm
  have se : ∀ z, z < 4 * Y.length → σ (kP f z) = kP f (sig Y.length z) := fun z hz => by
    rw [kpl z hz, s1 _ (klive z hz), ← kpl z hz]; have h1 := kl z hz
    unfold sig
    rw [if_pos h1, if_pos hz]
    unfold kP
    rw [show (f (z / 4) * 4 + z % 4) / 4 = f (z / 4) by omega, show (f (z / 4) * 4 + z % 4) % 4 = z % 4 by omega, show (z / 4 * 4 + (z % 4 + 3) % 4) / 4 = z / 4 by omega, show (z / 4 * 4 + (z % 4 + 3) % 4) % 4 = (z % 4 + 3) % 4 by omega]
  have so : ∀ y, (∀ i, i < 4 * Y.length → kP f i ≠ y) → σ y = y := fun y hy => s2 y (kout y hy)
  have sl := (sig_pm Y.length).lt; have hφ := phi_pm hσ g2
  have cF := cl_emb (k := kP f) km kl (R := Orb (phi σ ((ens Y).map fun e => (kP f e.1, kP f e.2)))) (R' := Orb (fac Y)) (fun i j hi hj =>
      orb_emb ki (φ' := fac Y) hY.fac_pm.lt (fun z hz => by
        show mate _ (σ (kP f z)) = kP f (mate (ens Y) (sig Y.length z))
        rw [se z hz, mi _ (sl z hz)]) hi hj)
    (fun y hy x r => orb_fix hφ (by
      show mate _ (σ y) = y
      rw [so y hy, mo y hy]) r) hφ.equiv
  have cV := cl_emb (k := kP f) km kl (R := Orb σ) (R' := Orb (sig Y.length)) (fun i j hi hj => orb_emb ki sl se hi hj)
    (fun y hy x r => orb_fix hσ (so y hy) r) hσ.equiv
  have hE := com_equiv hσ ((ens Y).map fun e => (kP f e.1, kP f e.2)); have hP := com_equiv (sig_pm Y.length) (ens Y)
  have hS : Equivalence (fun x y => x = y ∨ ∃ i j, i < 4 * Y.length ∧ j < 4 * Y.length ∧ kP f i = x ∧ kP f j = y ∧ pie Y i j) := by
    refine ⟨fun x => .inl rfl, fun {x y} k => ?_, fun {x y z} k l => ?_⟩
    · rcases k with k | ⟨i, j, h1, h2, h3, h4, h5⟩
      · exact .inl k.symm
      · exact .inr ⟨j, i, h2, h1, h4, h3, hP.symm h5⟩
    · rcases k with k | ⟨i, j, h1, h2, h3, h4, h5⟩
      · rw [k]; exact l
      · rcases l with l | ⟨i', j', k1, k2, k3, k4, k5⟩
        · rw [← l]; exact .inr ⟨i, j, h1, h2, h3, h4, h5⟩
        · have := ki j i' h2 k1 (h4.trans k3.symm)
          subst this
          exact .inr ⟨i, j', h1, k2, h3, k4, hP.trans h5 k5⟩
  have down : ∀ {x y}, com σ ((ens Y).map fun e => (kP f e.1, kP f e.2)) x y → x = y ∨ ∃ i j, i < 4 * Y.length ∧ j < 4 * Y.length ∧ kP f i = x ∧ kP f j = y ∧ pie Y i j := fun {x y} k => by
    refine com_least hS (fun z => ?_) (fun e he => ?_) k
    · by_cases c : ∃ i, i < 4 * Y.length ∧ kP f i = z
      · obtain ⟨i, hi, rfl⟩ := c
        exact .inr ⟨i, sig Y.length i, hi, sl i hi, rfl, (se i hi).symm, com_sub (Orb.one _ i)⟩
      · exact .inl (so z fun i hi e => c ⟨i, hi, e⟩).symm
    · obtain ⟨d, hd, rfl⟩ := List.mem_map.1 he
      obtain ⟨h1, h2, _⟩ := G d hd
      exact .inr ⟨d.1, d.2, h1, h2, rfl, rfl, com_pair (sig_pm Y.length) hd⟩
  have up : ∀ {i j}, pie Y i j → i < 4 * Y.length → j < 4 * Y.length → com σ ((ens Y).map fun e => (kP f e.1, kP f e.2)) (kP f i) (kP f j) := fun {i j} k hi hj => by
    have hT : Equivalence (fun i j => com σ ((ens Y).map fun e => (kP f e.1, kP f e.2)) (kP f i) (kP f j)) := ⟨fun x => hE.refl _, fun k => hE.symm k, fun k l => hE.trans k l⟩
    refine com_least hT (fun z => ?_) (fun e he => ?_) k
    · by_cases c : z < 4 * Y.length
      · show com σ _ (kP f z) (kP f (sig Y.length z))
        rw [← se z c]; exact com_sub (Orb.one _ _)
      · rw [(sig_pm Y.length).out z (by omega)]; exact hE.refl _
    · exact com_pair hσ (e := (kP f e.1, kP f e.2)) (List.mem_map.2 ⟨e, he, rfl⟩)
  have cC := cl_emb (k := kP f) km kl (R := com σ ((ens Y).map fun e => (kP f e.1, kP f e.2))) (R' := pie Y) (fun i j hi hj => by
      constructor
      · intro k
        rcases down k with k | ⟨i', j', h1, h2, h3, h4, h5⟩
        · rw [ki i j hi hj k]; exact hP.refl _
        · rw [← ki i' i h1 hi h3, ← ki j' j h2 hj h4]; exact h5
      · exact fun k => up k hi hj)
    (fun y hy x r => by
      rcases down r with k | ⟨i, j, _, h2, _, h4, _⟩
      · exact k
      · exact absurd h4 (hy j h2)) hE
  unfold Flat at F
  rw [List.length_map] at F
  have hl : (ens Y).length = nArcs Y := by unfold ens; rw [List.length_map, arcs_length]
  have a1 := hY.cl_faces; have a2 := hY.cl_pieces; have a3 := cl_sig Y.length; rw [hY.planar_iff]
  unfold nArcs at hl
  omega
end
end Go.Proofs.YtgjmjbgicfkojaaGreat.Kn

namespace Go.Proofs.YtgjmjbgicfkojaaGreat.Kn

structure Rep (f : Nat → Nat) (E : Nat → Nat → Prop) : Prop where
  iff : ∀ a b, f a = f b ↔ E a b
  le : ∀ a, f a ≤ a
  idem : ∀ a, f (f a) = f a
  pos : ∀ a, 1 ≤ a → 1 ≤ f a
def joinF (f : Nat → Nat) (u v a : Nat) : Nat := if f a = max (f u) (f v) then min (f u) (f v) else f a
theorem Rep.id : Rep (fun a => a) (com (fun x => x) []) := ⟨fun _ _ => com_id_nil.symm, fun _ => Nat.le_refl _, fun _ => rfl, fun _ h => h⟩
theorem Rep.join {f : Nat → Nat} {E : Nat → Nat → Prop} (h : Rep f E) {u v : Nat} (hu : 1 ≤ u) (hv : 1 ≤ v) : Rep (joinF f u v) (mrg E u v) := by
  have p1 := h.pos u hu; have p2 := h.pos v hv
  refine ⟨fun a b => ?_, fun a => ?_, fun a => ?_, fun a ha => ?_⟩
  · have key : joinF f u v a = joinF f u v b ↔ f a = f b ∨ (f a = f u ∧ f v = f b) ∨ (f a = f v ∧ f u = f b) := by
      unfold joinF
      by_cases c : f a = max (f u) (f v) <;> by_cases d : f b = max (f u) (f v)
      · rw [if_pos c, if_pos d]; omega
      · rw [if_pos c, if_neg d]; omega
      · rw [if_neg c, if_pos d]; omega
      · rw [if_neg c, if_neg d]; omega
    rw [key, h.iff, h.iff, h.iff, h.iff, h.iff]; rfl
  · unfold joinF
    have := h.le a
    split <;> omega
  · have i1 := h.idem a
    have i2 := h.idem u; have i3 := h.idem v
    have m : min (f u) (f v) = f u ∨ min (f u) (f v) = f v := by omega
    unfold joinF
    by_cases c : f a = max (f u) (f v)
    · rw [if_pos c]
      rcases m with m | m
      · rw [m, i2]; split <;> omega
      · rw [m, i3]; split <;> omega
    · rw [if_neg c, i1, if_neg c]
  · unfold joinF
    have := h.pos a ha
    split <;> omega

def kept (n : Nat) (gone : Nat → Bool) : List Nat := (List.range n).filter fun c => !gone c
def leftB (X : List Cr) (f : Nat → Nat) (gone : Nat → Bool) (r : Nat) : Bool := (kept X.length gone).any fun c => (List.range 4).any fun s => decide (f (arcN X (c, s)) = r)
def rootB (X : List Cr) (f : Nat → Nat) (gone : Nat → Bool) (r : Nat) : Bool := decide (f r = r) && leftB X f gone r
def numF (X : List Cr) (f : Nat → Nat) (gone : Nat → Bool) (v : Nat) : Nat := (List.range v).countP fun a => rootB X f gone (a + 1)
def withL (X : List Cr) (f : Nat → Nat) (gone : Nat → Bool) : List Cr := (kept X.length gone).map fun c => (cr X c).ren fun a => numF X f gone (f a)
def ringN (X : List Cr) (f : Nat → Nat) (gone : Nat → Bool) : Nat := (List.range (nArcs X)).countP fun a => decide (f (a + 1) = a + 1) && !leftB X f gone (a + 1)
theorem mem_kept {n c : Nat} {gone : Nat → Bool} : c ∈ kept n gone ↔ c < n ∧ gone c = false := by unfold kept; simp
theorem leftB_iff {X : List Cr} {f : Nat → Nat} {gone : Nat → Bool} {r : Nat} : leftB X f gone r = true ↔ ∃ p, isPl X p ∧ gone p.1 = false ∧ f (arcN X p) = r := by
  unfold leftB
  simp only [List.any_eq_true, mem_kept, List.mem_range, decide_eq_true_eq]
  constructor
  · rintro ⟨c, ⟨h1, h2⟩, s, h3, h4⟩; exact ⟨(c, s), ⟨h1, h3⟩, h2, h4⟩
  · rintro ⟨p, ⟨h1, h3⟩, h2, h4⟩; exact ⟨p.1, ⟨h1, h2⟩, p.2, h3, h4⟩
section
variable {X : List Cr} {f : Nat → Nat} {gone : Nat → Bool}
theorem numF_succ (v : Nat) : numF X f gone (v + 1) = numF X f gone v + if rootB X f gone (v + 1) then 1 else 0 := by
  unfold numF
  rw [List.range_succ, List.countP_append, List.countP_cons, List.countP_nil]; simp
theorem numF_mono {v : Nat} : ∀ {w : Nat}, v ≤ w → numF X f gone v ≤ numF X f gone w
  | 0, h => by rw [show v = 0 by omega]; exact Nat.le_refl _
  | w + 1, h => by
    by_cases c : v = w + 1
    · rw [c]; exact Nat.le_refl _
    · have := numF_mono (v := v) (w := w) (by omega)
      rw [numF_succ]; omega
theorem numF_lt {v w : Nat} (h : v < w) (hw : rootB X f gone w = true) : numF X f gone v < numF X f gone w := by
  obtain ⟨u, rfl⟩ : ∃ u, w = u + 1 := ⟨w - 1, by omega⟩
  have := numF_mono (X := X) (f := f) (gone := gone) (v := v) (w := u) (by omega)
  rw [numF_succ, if_pos hw]; omega
theorem withL_len : (withL X f gone).length = (kept X.length gone).length := by unfold withL; rw [List.length_map]
theorem kept_lt {i : Nat} (h : i < (kept X.length gone).length) : (kept X.length gone).getD i 0 < X.length ∧ gone ((kept X.length gone).getD i 0) = false := by
  rw [List.getD_eq_getElem?_getD, List.getElem?_eq_getElem h]
  exact mem_kept.1 (List.getElem_mem h)
theorem withL_cr {i : Nat} (h : i < (kept X.length gone).length) : cr (withL X f gone) i = (cr X ((kept X.length gone).getD i 0)).ren fun a => numF X f gone (f a) := by
  have e1 : (kept X.length gone).getD i 0 = (kept X.length gone)[i] := by rw [List.getD_eq_getElem?_getD, List.getElem?_eq_getElem h]; rfl
  rw [e1]
  show (withL X f gone).getD i default = _
  unfold withL
  rw [List.getD_eq_getElem?_getD, List.getElem?_map, List.getElem?_eq_getElem h]; rfl
theorem kept_mono {n : Nat} {i j : Nat} (hij : i < j) (hj : j < (kept n gone).length) : (kept n gone).getD i 0 < (kept n gone).getD j 0 := by
  have h : (kept n gone).Pairwise (· < ·) := List.Pairwise.filter _ List.pairwise_lt_range; rw [List.getD_eq_getElem?_getD, List.getElem?_eq_getElem (by omega), List.getD_eq_getElem?_getD, List.getElem?_eq_getElem hj]
  exact List.pairwise_iff_getElem.1 h i j (by omega) hj hij
theorem kept_at {n c : Nat} (h : c < n) (hg : gone c = false) : ∃ i, i < (kept n gone).length ∧ (kept n gone).getD i 0 = c := by
  obtain ⟨i, hi, e⟩ := List.mem_iff_getElem.1 (mem_kept.2 ⟨h, hg⟩)
  exact ⟨i, hi, by rw [List.getD_eq_getElem?_getD, List.getElem?_eq_getElem hi]; exact e⟩
theorem with_cut (hX : Ok X) {E : Nat → Nat → Prop} (hR : Rep f E) (hE : Equivalence E) {live : Pl → Prop} {o : Pl → Pl} (hT : Tied X live E o) (hl : ∀ p, live p ↔ isPl X p ∧ gone p.1 = false) :
    Cut X (withL X f gone) (fun i => (kept X.length gone).getD i 0) (fun a => numF X f gone (f a)) live E o := by
  have root : ∀ p, live p → rootB X f gone (f (arcN X p)) = true := fun p hp => by
    unfold rootB
    rw [Bool.and_eq_true]
    exact ⟨decide_eq_true (hR.idem _), leftB_iff.2 ⟨p, ((hl p).1 hp).1, ((hl p).1 hp).2, rfl⟩⟩
  have arcOf : ∀ p, live p → 1 ≤ f (arcN X p) ∧ f (arcN X p) ≤ nArcs X := fun p hp => by
    have := hX.isArc (hT.isP p hp); have h1 := hR.pos _ this.1; have h2 := hR.le (arcN X p); have := this.2
    omega
  refine ⟨hX, fun i j hij hj => kept_mono hij (withL_len ▸ hj), fun i hi => (kept_lt (withL_len ▸ hi)).1, fun p hp => ?_, fun i hi => withL_cr (withL_len ▸ hi), hT, hE, fun p q hp hq => ?_, fun p hp => ?_⟩
  · rw [hl p]
    constructor
    · rintro ⟨h1, h2⟩
      obtain ⟨i, hi, e⟩ := kept_at h1.1 h2
      exact ⟨i, withL_len ▸ hi, e⟩
    · rintro ⟨i, hi, e⟩
      exact ⟨hp, by rw [← e]; exact (kept_lt (withL_len ▸ hi)).2⟩
  · rw [← hR.iff]
    constructor
    · intro e
      rcases Nat.lt_trichotomy (f (arcN X p)) (f (arcN X q)) with c | c | c
      · have := numF_lt c (root q hq); omega
      · exact c
      · have := numF_lt c (root p hp); omega
    · intro e; show numF X f gone _ = numF X f gone _; rw [e]
  · have a1 := arcOf p hp
    have h0 := numF_lt (v := 0) (by omega) (root p hp)
    refine ⟨by show 1 ≤ numF X f gone _; omega, ?_⟩
    have h1 := numF_mono (X := X) (f := f) (gone := gone) a1.2
    refine Nat.le_trans h1 ?_
    unfold numF
    rw [List.countP_eq_length_filter]
    have hn : (((List.range (nArcs X)).filter fun a => rootB X f gone (a + 1)).map (· + 1)).Nodup :=
      map_nodup (List.nodup_range.sublist List.filter_sublist) fun x _ y _ e => by
        have e : x + 1 = y + 1 := e
        omega
    have := nodup_le (m := (List.range (nArcs (withL X f gone))).map fun k => f (arcN X (onP (fun i => (kept X.length gone).getD i 0) (ip (withL X f gone) k)))) hn fun r hr => by
      obtain ⟨a, ha, rfl⟩ := List.mem_map.1 hr; rw [List.mem_filter] at ha; have hb := ha.2
      unfold rootB at hb
      rw [Bool.and_eq_true, leftB_iff] at hb; obtain ⟨q, q1, q2, q3⟩ := hb.2; have hq : live q := (hl q).2 ⟨q1, q2⟩
      have main : ∀ q, live q → cm X q = true → f (arcN X q) = a + 1 → a + 1 ∈ (List.range (nArcs (withL X f gone))).map fun k => f (arcN X (onP (fun i => (kept X.length gone).getD i 0) (ip (withL X f gone) k))) := fun q hq hc e => by
        obtain ⟨i, hi, ei⟩ := kept_at ((hl q).1 hq).1.1 ((hl q).1 hq).2; have hp : isPl (withL X f gone) (i, q.2) := ⟨by rw [withL_len]; exact hi, ((hl q).1 hq).1.2⟩
        have e1 : cm (withL X f gone) (i, q.2) = true := by
          rw [← hc]; unfold cm; rw [withL_cr hi]; simp only; rw [ei]; rfl
        obtain ⟨k, hk, ek⟩ := ip_all hp e1
        refine List.mem_map.2 ⟨k, List.mem_range.2 hk, ?_⟩
        show f (arcN X (onP (fun i => (kept X.length gone).getD i 0) (ip (withL X f gone) k))) = a + 1
        rw [ek]
        show f (arcN X ((kept X.length gone).getD i 0, q.2)) = a + 1
        rw [ei]; exact e
      by_cases c : cm X q = true
      · exact main q hq c q3
      · refine main (o q) (hT.lv q hq) ?_ ?_
        · rw [hT.op q hq]; simpa using c
        · rw [(hR.iff _ _).2 (hE.symm (hT.eq q hq))]; exact q3
    rw [List.length_map, List.length_map, List.length_range] at this
    exact this
end
end Go.Proofs.YtgjmjbgicfkojaaGreat.Kn

namespace Go.Proofs.YtgjmjbgicfkojaaGreat.Kn

section
variable {M : Nat} {f : Nat → Nat}
end

instance (X : List Cr) (a : Nat) : Decidable (isArc X a) := inferInstanceAs (Decidable (_ ∧ _))
def nxt (X : List Cr) (a : Nat) : Nat := if isArc X a then nextA X a else a
theorem comes_opp (x : Cr) {s : Nat} (hs : s < 4) : x.comes ((s + 2) % 4) = !x.comes s := by
  unfold Cr.comes over
  cases x.p <;> match s, hs with
    | 0, _ => rfl
    | 1, _ => rfl
    | 2, _ => rfl
    | 3, _ => rfl
section
variable {X : List Cr}
theorem cm_opp {p : Pl} (hp : isPl X p) : cm X (p.1, (p.2 + 2) % 4) = !cm X p := comes_opp _ hp.2
end
end Go.Proofs.YtgjmjbgicfkojaaGreat.Kn

namespace Go.Proofs.YtgjmjbgicfkojaaGreat.Kn

def tieF (X : List Cr) (f : Nat → Nat) (c : Nat) : Nat → Nat :=
  joinF (joinF f (arcN X (c, 0)) (arcN X (c, 2))) (arcN X (c, over (cr X c).p)) (arcN X (c, (over (cr X c).p + 2) % 4))
def tieE (X : List Cr) (es : Prs) (c : Nat) : Prs :=
  (arcN X (c, over (cr X c).p), arcN X (c, (over (cr X c).p + 2) % 4)) :: (arcN X (c, 0), arcN X (c, 2)) :: es
def classF (X : List Cr) (gone : Nat → Bool) : Nat → Nat → Nat
  | 0 => fun a => a
  | k + 1 => if gone k then tieF X (classF X gone k) k else classF X gone k
def classE (X : List Cr) (gone : Nat → Bool) : Nat → Prs
  | 0 => []
  | k + 1 => if gone k then tieE X (classE X gone k) k else classE X gone k
def takeL (X : List Cr) (gone : Nat → Bool) : List Cr := withL X (classF X gone X.length) gone
def takeN (X : List Cr) (gone : Nat → Bool) : Nat := ringN X (classF X gone X.length) gone
section
variable {X : List Cr}
theorem Ok.class_rep (h : Ok X) (gone : Nat → Bool) : ∀ k, k ≤ X.length → Rep (classF X gone k) (com (fun x => x) (classE X gone k))
  | 0, _ => Rep.id
  | k + 1, hk => by
    have i := h.class_rep gone k (by omega)
    unfold classF classE
    split
    · have ar : ∀ s, s < 4 → 1 ≤ arcN X (k, s) := fun s hs => (h.isArc (p := (k, s)) ⟨by show k < _; omega, hs⟩).1
      exact (i.join (ar 0 (by omega)) (ar 2 (by omega))).join (ar _ (over_lt _)) (ar _ (Nat.mod_lt _ (by omega)))
    · exact i
theorem mem_classE {gone : Nat → Bool} {e : Nat × Nat} : ∀ {k : Nat}, e ∈ classE X gone k ↔ ∃ c, c < k ∧ gone c = true ∧ (e = (arcN X (c, over (cr X c).p), arcN X (c, (over (cr X c).p + 2) % 4)) ∨ e = (arcN X (c, 0), arcN X (c, 2)))
  | 0 => by simp [classE]
  | k + 1 => by
    unfold classE
    by_cases g : gone k = true
    · rw [if_pos g]
      unfold tieE
      rw [List.mem_cons, List.mem_cons, mem_classE]
      constructor
      · rintro (h | h | ⟨c, h1, h2⟩)
        · exact ⟨k, by omega, g, .inl h⟩
        · exact ⟨k, by omega, g, .inr h⟩
        · exact ⟨c, by omega, h2⟩
      · rintro ⟨c, h1, h2, h3⟩
        by_cases e : c = k
        · subst e
          rcases h3 with h3 | h3
          · exact .inl h3
          · exact .inr (.inl h3)
        · exact .inr (.inr ⟨c, by omega, h2, h3⟩)
    · rw [if_neg g, mem_classE]
      constructor
      · rintro ⟨c, h1, h2⟩; exact ⟨c, by omega, h2⟩
      · rintro ⟨c, h1, h2, h3⟩
        refine ⟨c, ?_, h2, h3⟩
        by_cases e : c = k
        · subst e; exact absurd h2 g
        · omega
theorem over_or (p : Bool) : over p = 1 ∨ over p = 3 := by cases p <;> simp [over]
theorem tied_all {gone : Nat → Bool} {k c : Nat} (hc : c < k) (hg : gone c = true) {s : Nat} (hs : s < 4) : com (fun x => x) (classE X gone k) (arcN X (c, s)) (arcN X (c, (s + 2) % 4)) := by
  have hE := com_id_equiv (classE X gone k); have h1 := com_id_pair (mem_classE (X := X) (gone := gone) (k := k) |>.2 ⟨c, hc, hg, .inl rfl⟩); have h2 := com_id_pair (mem_classE (X := X) (gone := gone) (k := k) |>.2 ⟨c, hc, hg, .inr rfl⟩); simp only at h1 h2
  have cases4 : s = 0 ∨ s = 1 ∨ s = 2 ∨ s = 3 := by omega
  rcases cases4 with rfl | rfl | rfl | rfl
  · exact h2
  · rcases over_or (cr X c).p with e | e <;> rw [e] at h1
    · exact h1
    · exact hE.symm h1
  · exact hE.symm h2
  · rcases over_or (cr X c).p with e | e <;> rw [e] at h1
    · exact hE.symm h1
    · exact h1
theorem tied_two {es : Prs} {c s : Nat} (h1 : com (fun x => x) es (arcN X (c, s)) (arcN X (c, (s + 2) % 4))) (h2 : com (fun x => x) es (arcN X (c, (s + 1) % 4)) (arcN X (c, (s + 3) % 4))) (hs : s < 4) {t : Nat} (ht : t < 4) :
    com (fun x => x) es (arcN X (c, t)) (arcN X (c, (t + 2) % 4)) := by
  have hE := com_id_equiv es
  have cases4 : t = s ∨ t = (s + 1) % 4 ∨ t = (s + 2) % 4 ∨ t = (s + 3) % 4 := by omega
  rcases cases4 with e | e | e | e
  · rw [e]; exact h1
  · rw [show (t + 2) % 4 = (s + 3) % 4 by omega, e]; exact h2
  · rw [show (t + 2) % 4 = s by omega, e]; exact hE.symm h1
  · rw [show (t + 2) % 4 = (s + 1) % 4 by omega, e]; exact hE.symm h2
theorem Ok.flat (h : Ok X) (hp : planarB X = true) : Flat (4 * X.length) (sig X.length) (ens X) := by
  have h0 := h.planar_iff.1 hp; have a1 := h.cl_faces; have a2 := h.cl_pieces; have a3 := cl_sig X.length
  have hl : (ens X).length = nArcs X := by unfold ens; rw [List.length_map, arcs_length]
  unfold nArcs at hl
  unfold Flat
  have a1 : cl (4 * X.length) (Orb (phi (sig X.length) (ens X))) = (facesL X).length := a1; have a2 : cl (4 * X.length) (com (sig X.length) (ens X)) = (piecesL X).length := a2
  omega
theorem Ok.mate_free (h : Ok X) {p : Pl} (hp : isPl X p) : mate (ens X) (pk p) ≠ pk p := fun e => by
  rw [h.mate_pk hp] at e; have := pk_inj (h.isPl_other hp).2 hp.2 e; have h1 := h.cm_other hp; rw [this] at h1
  cases hh : cm X p <;> simp [hh] at h1
theorem Ok.mate_big (h : Ok X) {z : Nat} (hz : 4 * X.length ≤ z) : mate (ens X) z = z := mate_out (by
  rintro ⟨e, he, k⟩; obtain ⟨h1, h2, _⟩ := h.ens_good e he
  omega)
theorem mem_four {c s z : Nat} (hs : s < 4) : z ∈ [pk (c, s), pk (c, (s + 1) % 4), pk (c, (s + 2) % 4), pk (c, (s + 3) % 4)] ↔ z / 4 = c := by
  unfold pk
  simp only [List.mem_cons, List.not_mem_nil, or_false]
  omega
theorem four_nodup {c s : Nat} (_hs : s < 4) : [pk (c, s), pk (c, (s + 1) % 4), pk (c, (s + 2) % 4), pk (c, (s + 3) % 4)].Nodup := by
  unfold pk
  simp only [List.nodup_cons, List.mem_cons, List.not_mem_nil, or_false, not_or, List.nodup_nil, and_true, not_false_eq_true]
  omega
theorem four_ne {c s : Nat} (_hs : s < 4) : ((c, s) : Pl) ≠ (c, (s + 1) % 4) ∧ ((c, s) : Pl) ≠ (c, (s + 2) % 4) ∧ ((c, s) : Pl) ≠ (c, (s + 3) % 4) ∧ ((c, (s + 1) % 4) : Pl) ≠ (c, (s + 2) % 4) ∧ ((c, (s + 1) % 4) : Pl) ≠ (c, (s + 3) % 4) ∧ ((c, (s + 2) % 4) : Pl) ≠ (c, (s + 3) % 4) := by
  simp only [ne_eq, Prod.mk.injEq, true_and]
  omega
theorem of_four {c s : Nat} {p : Pl} (hs : s < 4) (hp : p.2 < 4) : p.1 = c ↔ p = (c, s) ∨ p = (c, (s + 1) % 4) ∨ p = (c, (s + 2) % 4) ∨ p = (c, (s + 3) % 4) := by
  obtain ⟨a, b⟩ := p; simp only [Prod.mk.injEq] at hp ⊢
  omega
theorem sig4 {n c s : Nat} (hc : c < n) (hs : s < 4) : sig n (pk (c, s)) = pk (c, (s + 3) % 4) ∧ sig n (pk (c, (s + 3) % 4)) = pk (c, (s + 2) % 4) ∧ sig n (pk (c, (s + 2) % 4)) = pk (c, (s + 1) % 4) ∧ sig n (pk (c, (s + 1) % 4)) = pk (c, s) := by
  refine ⟨sig_pk hc hs, ?_, ?_, ?_⟩ <;> rw [sig_pk (p := (c, _)) hc (Nat.mod_lt _ (by omega))] <;> simp only <;> congr 2 <;> omega
abbrev only (c : Nat) : Nat → Bool := fun d => decide (d = c)
theorem Ok.take_kink (h : Ok X) {c s : Nat} (hc : c < X.length) (hs : s < 4) (ha : arcN X (c, s) = arcN X (c, (s + 1) % 4)) :
    Ok (takeL X (only c)) ∧ (planarB X = true → planarB (takeL X (only c)) = true) := by
  have m4 : ∀ k, (s + k) % 4 < 4 := fun k => Nat.mod_lt _ (by omega)
  have pA : isPl X (c, s) := ⟨hc, hs⟩; have pB : isPl X (c, (s + 1) % 4) := ⟨hc, m4 1⟩; have pC : isPl X (c, (s + 2) % 4) := ⟨hc, m4 2⟩; have pD : isPl X (c, (s + 3) % 4) := ⟨hc, m4 3⟩; obtain ⟨nAB, nAC, nAD, nBC, nBD, nCD⟩ := four_ne (c := c) hs
  have oA : other X (c, s) = (c, (s + 1) % 4) := by
    rcases (h.arc_eq pA pB).1 ha with e | e
    · exact absurd e.symm nAB
    · exact e.symm
  have cBD : cm X (c, (s + 3) % 4) = !cm X (c, (s + 1) % 4) := by
    have := cm_opp pB
    rwa [show ((s + 1) % 4 + 2) % 4 = (s + 3) % 4 by omega] at this
  have T := h.tied.kink (com_id_equiv []) pA pB pC pD (cm_opp pA) cBD oA nAC nAD nBC nBD nCD
  have T' : Tied X (fun p => isPl X p ∧ only c p.1 = false) (com (fun x => x) (classE X (only c) X.length)) (fun p => if other X p = (c, (s + 2) % 4) then other X (c, (s + 3) % 4) else if other X p = (c, (s + 3) % 4) then other X (c, (s + 2) % 4) else other X p) := by
    refine T.congr (fun p => ?_) (fun x y => ?_) fun _ _ => rfl
    · constructor
      · rintro ⟨h1, h2⟩
        have h2 : ¬ p.1 = c := by simpa using h2
        rw [of_four hs h1.2] at h2; simp only [not_or] at h2
        exact ⟨h1, h2.1, h2.2.2.1, h2.2.1, h2.2.2.2⟩
      · rintro ⟨h1, h2, h3, h4, h5⟩
        refine ⟨h1, ?_⟩
        have : ¬ p.1 = c := by rw [of_four hs h1.2]; simp only [not_or]; exact ⟨h2, h4, h3, h5⟩
        simpa using this
    · show com (fun x => x) (classE X (only c) X.length) x y ↔ com (fun x => x) [(arcN X (c, (s + 1) % 4), arcN X (c, (s + 3) % 4)), (arcN X (c, s), arcN X (c, (s + 2) % 4))] x y
      have g : only c c = true := decide_eq_true rfl
      constructor
      · refine com_id_mono fun e he => ?_
        obtain ⟨d, _, hd, k⟩ := mem_classE.1 he
        have hd : d = c := by simpa using hd
        subst hd
        have q := fun {t} (ht : t < 4) => tied_two (X := X) (es := [(arcN X (d, (s + 1) % 4), arcN X (d, (s + 3) % 4)), (arcN X (d, s), arcN X (d, (s + 2) % 4))]) (c := d) (s := s) (com_id_pair (e := (arcN X (d, s), arcN X (d, (s + 2) % 4))) (by simp)) (com_id_pair (e := (arcN X (d, (s + 1) % 4), arcN X (d, (s + 3) % 4))) (by simp)) hs (t := t) ht
        rcases k with rfl | rfl
        · exact q (over_lt _)
        · exact q (t := 0) (by omega)
      · refine com_id_mono fun e he => ?_
        rw [List.mem_cons, List.mem_singleton] at he
        rcases he with rfl | rfl
        · have := tied_all (X := X) hc g (m4 1)
          rwa [show ((s + 1) % 4 + 2) % 4 = (s + 3) % 4 by omega] at this
        · exact tied_all (X := X) hc g hs
  have cut := with_cut h (h.class_rep (only c) X.length (Nat.le_refl _)) (com_id_equiv _) T' fun _ => Iff.rfl
  refine ⟨cut.okY, fun hp => ?_⟩
  obtain ⟨sA, sD, sC, sB⟩ := sig4 (n := X.length) hc hs; obtain ⟨es, g, d, pm, f, m⟩ := (h.flat hp).kink (sig_pm _) h.ens_good h.ens_dis (four_nodup (c := c) hs) sA sD sC sB (by rw [h.mate_pk pA, oA]) (h.mate_free pC) (h.mate_free pD)
  have liv : ∀ z, (∀ p, (isPl X p ∧ only c p.1 = false) → pk p ≠ z) → 4 * X.length ≤ z ∨ z / 4 = c := fun z hz => by
    by_cases k : 4 * X.length ≤ z
    · exact .inl k
    · refine .inr (Classical.byContradiction fun k' => hz (pl z) ⟨isPl_pl (by omega), by simpa [pl] using k'⟩ ?_)
      unfold pk pl; simp only; omega
  have out : ∀ p, (isPl X p ∧ only c p.1 = false) → pk p ∉ [pk (c, s), pk (c, (s + 1) % 4), pk (c, (s + 2) % 4), pk (c, (s + 3) % 4)] := fun p hp => by
    rw [mem_four hs, pk_div hp.1.2]
    simpa using hp.2
  refine cut.planar pm g d f (fun p hp => ?_) (fun z hz => ?_) (fun p hp => ?_) fun z hz => ?_
  · rw [m, if_neg (out p hp), h.mate_pk hp.1, h.mate_pk pD, h.mate_pk pC]
    have i := fun {q} (hq : isPl X q) => (show pk (other X p) = pk q ↔ other X p = q from ⟨pk_inj (h.isPl_other hp.1).2 hq.2, fun e => by rw [e]⟩)
    by_cases c1 : other X p = (c, (s + 2) % 4)
    · rw [if_pos ((i pC).2 c1), if_pos c1]
    · rw [if_neg (fun e => c1 ((i pC).1 e)), if_neg c1]
      by_cases c2 : other X p = (c, (s + 3) % 4)
      · rw [if_pos ((i pD).2 c2), if_pos c2]
      · rw [if_neg (fun e => c2 ((i pD).1 e)), if_neg c2]
  · rw [m]
    rcases liv z hz with k | k
    · have hz' := h.mate_big k
      have b1 := pk_lt pC; have b2 := pk_lt pD; rw [hz', if_neg (show ¬ z = pk (c, (s + 2) % 4) by omega), if_neg (show ¬ z = pk (c, (s + 3) % 4) by omega)]
      split <;> rfl
    · rw [if_pos ((mem_four hs).2 k)]
  · simp only [if_neg (out p hp)]
  · rcases liv z hz with k | k
    · simp only [(sig_pm X.length).out z k]
      split <;> rfl
    · simp only [if_pos ((mem_four hs).2 k)]
end
end Go.Proofs.YtgjmjbgicfkojaaGreat.Kn

namespace Go.Proofs.YtgjmjbgicfkojaaGreat.Kn
abbrev both (x y : Nat) : Nat → Bool := fun d => decide (d = x) || decide (d = y)
section
variable {X : List Cr}
theorem both_false {x y d : Nat} : both x y d = false ↔ d ≠ x ∧ d ≠ y := by simp
theorem mem_eight {x y s t z : Nat} (hs : s < 4) (ht : t < 4) :
    z ∈ [pk (x, s), pk (x, (s + 1) % 4), pk (x, (s + 2) % 4), pk (x, (s + 3) % 4), pk (y, t), pk (y, (t + 3) % 4), pk (y, (t + 2) % 4), pk (y, (t + 1) % 4)] ↔ z / 4 = x ∨ z / 4 = y := by
  unfold pk
  simp only [List.mem_cons, List.not_mem_nil, or_false]
  omega
theorem eight_nodup {x y s t : Nat} (hxy : x ≠ y) (hs : s < 4) (ht : t < 4) :
    [pk (x, s), pk (x, (s + 1) % 4), pk (x, (s + 2) % 4), pk (x, (s + 3) % 4), pk (y, t), pk (y, (t + 3) % 4), pk (y, (t + 2) % 4), pk (y, (t + 1) % 4)].Nodup := by
  unfold pk
  simp only [List.nodup_cons, List.mem_cons, List.not_mem_nil, or_false, not_or, List.nodup_nil, and_true, not_false_eq_true]
  omega
theorem off {x y s t : Nat} (h : x ≠ y) : ((x, s) : Pl) ≠ (y, t) := fun e => h (by injection e)
theorem Ok.take_bigon (h : Ok X) {x y s t : Nat} (hx : x < X.length) (hy : y < X.length) (hxy : x ≠ y) (hs : s < 4) (ht : t < 4)
    (oA : other X (x, s) = (y, t)) (oB : other X (x, (s + 1) % 4) = (y, (t + 3) % 4)) :
    Ok (takeL X (both x y)) ∧ (planarB X = true → planarB (takeL X (both x y)) = true) := by
  have m4 : ∀ k, (s + k) % 4 < 4 := fun k => Nat.mod_lt _ (by omega)
  have n4 : ∀ k, (t + k) % 4 < 4 := fun k => Nat.mod_lt _ (by omega)
  have hyx : y ≠ x := fun e => hxy e.symm
  have pA : isPl X (x, s) := ⟨hx, hs⟩; have pB : isPl X (x, (s + 1) % 4) := ⟨hx, m4 1⟩; have pC : isPl X (x, (s + 2) % 4) := ⟨hx, m4 2⟩; have pD : isPl X (x, (s + 3) % 4) := ⟨hx, m4 3⟩; have pa : isPl X (y, t) := ⟨hy, ht⟩; have pb : isPl X (y, (t + 3) % 4) := ⟨hy, n4 3⟩; have pc : isPl X (y, (t + 2) % 4) := ⟨hy, n4 2⟩; have pd : isPl X (y, (t + 1) % 4) := ⟨hy, n4 1⟩; obtain ⟨nAB, nAC, nAD, nBC, nBD, nCD⟩ := four_ne (c := x) hs; obtain ⟨nad, nac, nab, ndc, ndb, ncb⟩ := four_ne (c := y) ht
  have cBD : cm X (x, (s + 3) % 4) = !cm X (x, (s + 1) % 4) := by
    have := cm_opp pB
    rwa [show ((s + 1) % 4 + 2) % 4 = (s + 3) % 4 by omega] at this
  have cbd : cm X (y, (t + 1) % 4) = !cm X (y, (t + 3) % 4) := by
    have := cm_opp pb
    rwa [show ((t + 3) % 4 + 2) % 4 = (t + 1) % 4 by omega] at this
  have T1 := h.tied.pass (com_id_equiv []) pA pC pa pc (cm_opp pA) (cm_opp pa) oA (off hxy) (off hxy) (off hxy) nAC nac
  have o1B : (if other X (x, (s + 1) % 4) = (x, (s + 2) % 4) then other X (y, (t + 2) % 4) else if other X (x, (s + 1) % 4) = (y, (t + 2) % 4) then other X (x, (s + 2) % 4) else other X (x, (s + 1) % 4)) = (y, (t + 3) % 4) := by
    rw [oB, if_neg (off hyx), if_neg (fun e => ncb e.symm)]
  have T2 := T1.pass (mrg_equiv (mrg_equiv (com_id_equiv []) _ _) _ _) (A := (x, (s + 1) % 4)) (C := (x, (s + 3) % 4)) (a := (y, (t + 3) % 4)) (c := (y, (t + 1) % 4))
    ⟨pB, fun e => nAB e.symm, nBC, off hxy, off hxy⟩ ⟨pD, fun e => nAD e.symm, fun e => nCD e.symm, off hxy, off hxy⟩ ⟨pb, off hyx, off hyx, fun e => nab e.symm, fun e => ncb e.symm⟩ ⟨pd, off hyx, off hyx, fun e => nad e.symm, ndc⟩
    cBD cbd o1B (off hxy) (off hxy) (off hxy) nBD (fun e => ndb e.symm)
  have in8 : ∀ {p : Pl}, p.2 < 4 → (both x y p.1 = false ↔ (p ≠ (x, s) ∧ p ≠ (x, (s + 2) % 4) ∧ p ≠ (y, t) ∧ p ≠ (y, (t + 2) % 4)) ∧ p ≠ (x, (s + 1) % 4) ∧ p ≠ (x, (s + 3) % 4) ∧ p ≠ (y, (t + 3) % 4) ∧ p ≠ (y, (t + 1) % 4)) := fun {p} hp => by
    rw [both_false, ne_eq, ne_eq, of_four (c := x) hs hp, of_four (c := y) ht hp]; simp only [not_or]
    constructor
    · rintro ⟨⟨a1, a2, a3, a4⟩, b1, b2, b3, b4⟩; exact ⟨⟨a1, a3, b1, b3⟩, a2, a4, b4, b2⟩
    · rintro ⟨⟨a1, a3, b1, b3⟩, a2, a4, b4, b2⟩; exact ⟨⟨a1, a2, a3, a4⟩, b1, b2, b3, b4⟩
  have T' := T2.congr (live' := fun p => isPl X p ∧ both x y p.1 = false) (E' := com (fun x => x) (classE X (both x y) X.length)) (fun p => by
      constructor
      · rintro ⟨h1, h2⟩
        obtain ⟨h3, h4⟩ := (in8 h1.2).1 h2
        exact ⟨⟨h1, h3⟩, h4⟩
      · rintro ⟨⟨h1, h3⟩, h4⟩
        exact ⟨h1, (in8 h1.2).2 ⟨h3, h4⟩⟩) (fun u v => by
      show com (fun x => x) (classE X (both x y) X.length) u v ↔ com (fun x => x) [(arcN X (y, (t + 3) % 4), arcN X (y, (t + 1) % 4)), (arcN X (x, (s + 1) % 4), arcN X (x, (s + 3) % 4)), (arcN X (y, t), arcN X (y, (t + 2) % 4)), (arcN X (x, s), arcN X (x, (s + 2) % 4))] u v
      have gx : both x y x = true := by simp
      have gy : both x y y = true := by simp
      constructor
      · refine com_id_mono fun e he => ?_
        obtain ⟨d, _, hd, k⟩ := mem_classE.1 he; have hE := com_id_equiv [(arcN X (y, (t + 3) % 4), arcN X (y, (t + 1) % 4)), (arcN X (x, (s + 1) % 4), arcN X (x, (s + 3) % 4)), (arcN X (y, t), arcN X (y, (t + 2) % 4)), (arcN X (x, s), arcN X (x, (s + 2) % 4))]
        have q : ∀ {t'}, t' < 4 → com (fun x => x) [(arcN X (y, (t + 3) % 4), arcN X (y, (t + 1) % 4)), (arcN X (x, (s + 1) % 4), arcN X (x, (s + 3) % 4)), (arcN X (y, t), arcN X (y, (t + 2) % 4)), (arcN X (x, s), arcN X (x, (s + 2) % 4))] (arcN X (d, t')) (arcN X (d, (t' + 2) % 4)) := fun {t'} ht' => by
          have hd : d = x ∨ d = y := by simpa using hd
          rcases hd with rfl | rfl
          · exact tied_two (s := s) (com_id_pair (e := (arcN X (d, s), arcN X (d, (s + 2) % 4))) (by simp)) (com_id_pair (e := (arcN X (d, (s + 1) % 4), arcN X (d, (s + 3) % 4))) (by simp)) hs ht'
          · exact tied_two (s := t) (com_id_pair (e := (arcN X (d, t), arcN X (d, (t + 2) % 4))) (by simp)) (hE.symm (com_id_pair (e := (arcN X (d, (t + 3) % 4), arcN X (d, (t + 1) % 4))) (by simp))) ht ht'
        rcases k with rfl | rfl
        · exact q (over_lt _)
        · exact q (t' := 0) (by omega)
      · refine com_id_mono fun e he => ?_
        rw [List.mem_cons, List.mem_cons, List.mem_cons, List.mem_singleton] at he
        rcases he with rfl | rfl | rfl | rfl
        · have := tied_all (X := X) hy gy (n4 3)
          rwa [show ((t + 3) % 4 + 2) % 4 = (t + 1) % 4 by omega] at this
        · have := tied_all (X := X) hx gx (m4 1)
          rwa [show ((s + 1) % 4 + 2) % 4 = (s + 3) % 4 by omega] at this
        · exact tied_all (X := X) hy gy ht
        · exact tied_all (X := X) hx gx hs) fun _ _ => rfl
  have cut := with_cut h (h.class_rep (both x y) X.length (Nat.le_refl _)) (com_id_equiv _) T' fun _ => Iff.rfl
  refine ⟨cut.okY, fun hp => ?_⟩
  obtain ⟨sA, sD, sC, sB⟩ := sig4 (n := X.length) hx hs; obtain ⟨sa, sb, sc, sd⟩ := sig4 (n := X.length) hy ht
  obtain ⟨es, m1, g, d, pm, f, hm1, m⟩ := (h.flat hp).bigon (sig_pm _) h.ens_good h.ens_dis (eight_nodup (x := x) (y := y) hxy hs ht) sA sD sC sB sa sb sc sd
    (by rw [h.mate_pk pA, oA]) (by rw [h.mate_pk pB, oB]) (h.mate_free pC) (h.mate_free pD) (h.mate_free pc) (h.mate_free pd)
  have liv : ∀ z, (∀ p, (isPl X p ∧ both x y p.1 = false) → pk p ≠ z) → 4 * X.length ≤ z ∨ z / 4 = x ∨ z / 4 = y := fun z hz => by
    by_cases k : 4 * X.length ≤ z
    · exact .inl k
    · refine .inr (Classical.byContradiction fun k' => hz (pl z) ⟨isPl_pl (by omega), ?_⟩ ?_)
      · rw [both_false]
        exact ⟨fun e => k' (.inl e), fun e => k' (.inr e)⟩
      · unfold pk pl; simp only; omega
  have out : ∀ p, (isPl X p ∧ both x y p.1 = false) → pk p ∉ [pk (x, s), pk (x, (s + 1) % 4), pk (x, (s + 2) % 4), pk (x, (s + 3) % 4), pk (y, t), pk (y, (t + 3) % 4), pk (y, (t + 2) % 4), pk (y, (t + 1) % 4)] := fun p hp => by
    rw [mem_eight hs ht, pk_div hp.1.2]; have := both_false.1 hp.2
    exact fun k => k.elim this.1 this.2
  have pke : ∀ {p q : Pl}, p.2 < 4 → q.2 < 4 → (pk p = pk q ↔ p = q) := fun {p q} hp hq => ⟨pk_inj hp hq, fun e => by rw [e]⟩
  have st1 : ∀ q, isPl X q → q ≠ (x, s) → q ≠ (x, (s + 1) % 4) → q ≠ (y, t) → q ≠ (y, (t + 3) % 4) → q ≠ (x, (s + 2) % 4) → q ≠ (y, (t + 2) % 4) →
      m1 (pk q) = pk (if other X q = (x, (s + 2) % 4) then other X (y, (t + 2) % 4) else if other X q = (y, (t + 2) % 4) then other X (x, (s + 2) % 4) else other X q) ∧
      (if other X q = (x, (s + 2) % 4) then other X (y, (t + 2) % 4) else if other X q = (y, (t + 2) % 4) then other X (x, (s + 2) % 4) else other X q).2 < 4 := fun q hq k1 k2 k3 k4 k5 k6 => by
    have oq := h.isPl_other hq
    constructor
    · rw [hm1 _ (by
        simp only [List.mem_cons, List.not_mem_nil, or_false, not_or]
        exact ⟨fun e => k1 (pk_inj hq.2 pA.2 e), fun e => k2 (pk_inj hq.2 pB.2 e), fun e => k3 (pk_inj hq.2 pa.2 e), fun e => k4 (pk_inj hq.2 pb.2 e)⟩)]
      rw [if_neg (fun e => e.elim (fun e => k5 (pk_inj hq.2 pC.2 e)) fun e => k6 (pk_inj hq.2 pc.2 e)), h.mate_pk hq, h.mate_pk pc, h.mate_pk pC]
      by_cases c1 : other X q = (x, (s + 2) % 4)
      · rw [if_pos ((pke oq.2 pC.2).2 c1), if_pos c1]
      · rw [if_neg (fun e => c1 ((pke oq.2 pC.2).1 e)), if_neg c1]
        by_cases c2 : other X q = (y, (t + 2) % 4)
        · rw [if_pos ((pke oq.2 pc.2).2 c2), if_pos c2]
        · rw [if_neg (fun e => c2 ((pke oq.2 pc.2).1 e)), if_neg c2]
    · split
      · exact (h.isPl_other pc).2
      · split
        · exact (h.isPl_other pC).2
        · exact oq.2
  have mD := st1 _ pD (fun e => nAD e.symm) (fun e => nBD e.symm) (off hxy) (off hxy) (fun e => nCD e.symm) (off hxy); have md := st1 _ pd (off hyx) (off hyx) (fun e => nad e.symm) ndb (off hyx) ndc
  refine cut.planar pm g d f (fun p hp => ?_) (fun z hz => ?_) (fun p hp => ?_) fun z hz => ?_
  · obtain ⟨⟨k1, k5, k3, k6⟩, k2, _, k4, _⟩ := (in8 hp.1.2).1 hp.2
    have mp := st1 p hp.1 k1 k2 k3 k4 k5 k6; rw [m, if_neg (out p hp), mp.1, mD.1, md.1]; generalize (if other X p = (x, (s + 2) % 4) then other X (y, (t + 2) % 4) else if other X p = (y, (t + 2) % 4) then other X (x, (s + 2) % 4) else other X p) = w at mp ⊢
    by_cases c1 : w = (x, (s + 3) % 4)
    · rw [if_pos ((pke mp.2 pD.2).2 c1), if_pos c1]
    · rw [if_neg (fun e => c1 ((pke mp.2 pD.2).1 e)), if_neg c1]
      by_cases c2 : w = (y, (t + 1) % 4)
      · rw [if_pos ((pke mp.2 pd.2).2 c2), if_pos c2]
      · rw [if_neg (fun e => c2 ((pke mp.2 pd.2).1 e)), if_neg c2]
  · rw [m]
    rcases liv z hz with k | k
    · have hz' := h.mate_big k
      have far : ∀ {p}, isPl X p → z ≠ pk p := fun hp e => by have := pk_lt hp; omega
      have e1 : m1 z = z := by
        rw [hm1 z (by
          simp only [List.mem_cons, List.not_mem_nil, or_false, not_or]
          exact ⟨far pA, far pB, far pa, far pb⟩), hz', if_neg (far pC), if_neg (far pc)]
        split <;> rfl
      rw [e1, if_neg (far pD), if_neg (far pd)]
      split <;> rfl
    · rw [if_pos ((mem_eight hs ht).2 k)]
  · simp only [if_neg (out p hp)]
  · rcases liv z hz with k | k
    · simp only [(sig_pm X.length).out z k]
      split <;> rfl
    · simp only [if_pos ((mem_eight hs ht).2 k)]
end
end Go.Proofs.YtgjmjbgicfkojaaGreat.Kn

namespace Go.Proofs.YtgjmjbgicfkojaaGreat.Kn
section
variable {X : List Cr}
theorem takeL_len (gone : Nat → Bool) : (takeL X gone).length = (kept X.length gone).length := withL_len
theorem two_filters (p : Nat → Bool) : ∀ l : List Nat, (l.filter fun c => !p c).length + (l.filter p).length = l.length
  | [] => rfl
  | x :: l => by
    have := two_filters p l
    cases h : p x <;> simp [h] <;> omega
theorem kept_add (n : Nat) (gone : Nat → Bool) : (kept n gone).length + ((List.range n).filter gone).length = n := by
  unfold kept
  rw [two_filters, List.length_range]
theorem kept_only {n c : Nat} (hc : c < n) : (kept n (only c)).length + 1 = n := by
  have h := kept_add n (only c)
  have : ((List.range n).filter (only c)).length = 1 := by
    have P : ((List.range n).filter (only c)).Perm [c] := by
      refine (List.perm_ext_iff_of_nodup (List.nodup_range.sublist List.filter_sublist) (by simp)).2 fun x => ?_
      rw [List.mem_filter, List.mem_range, List.mem_singleton]; simp only [only, decide_eq_true_eq]
      exact ⟨fun h => h.2, fun h => ⟨h ▸ hc, h⟩⟩
    exact P.length_eq
  omega
theorem kept_both {n x y : Nat} (hx : x < n) (hy : y < n) (hxy : x ≠ y) : (kept n (both x y)).length + 2 = n := by
  have h := kept_add n (both x y)
  have : ((List.range n).filter (both x y)).length = 2 := by
    have P : ((List.range n).filter (both x y)).Perm [x, y] := by
      refine (List.perm_ext_iff_of_nodup (List.nodup_range.sublist List.filter_sublist) (by simp [hxy])).2 fun z => ?_
      rw [List.mem_filter, List.mem_range, List.mem_cons, List.mem_singleton]; simp only [both, Bool.or_eq_true, decide_eq_true_eq]
      exact ⟨fun h => h.2, fun h => ⟨h.elim (fun e => e ▸ hx) fun e => e ▸ hy, h⟩⟩
    exact P.length_eq
  omega
theorem Ok.takeN_pos (h : Ok X) (gone : Nat → Bool) (hn : 0 < X.length) (h0 : takeL X gone = []) : 1 ≤ takeN X gone := by
  have hk : kept X.length gone = [] := by
    have := takeL_len (X := X) gone; rw [h0] at this
    exact List.length_eq_zero_iff.1 this.symm
  have hr := h.class_rep gone X.length (Nat.le_refl _)
  have h1 : classF X gone X.length 1 = 1 := by
    have := hr.le 1; have := hr.pos 1 (by omega)
    omega
  unfold takeN ringN
  refine List.countP_pos_iff.2 ⟨0, List.mem_range.2 (by unfold nArcs; omega), ?_⟩
  have : leftB X (classF X gone X.length) gone (0 + 1) = false := by unfold leftB; rw [hk]; rfl
  rw [this]
  simp [h1]
theorem Ok.bigon_of (h : Ok X) {d e : Dt} (hd : Kn.isArc X d.1) (h1 : left X d = e) (h2 : left X e = d) :
    other X ((head X e).1, ((head X e).2 + 3) % 4) = head X d ∧ other X (head X e) = ((head X d).1, ((head X d).2 + 3) % 4) := by
  have he : Kn.isArc X e.1 := h1 ▸ h.isArc_left hd
  have key : ∀ {d : Dt}, Kn.isArc X d.1 → head X (left X d) = other X ((head X d).1, ((head X d).2 + 3) % 4) := fun {d} hd => by
    have hp := isPl_turn (h.isPl_head hd) 3
    show endP X (!(cm X ((head X d).1, ((head X d).2 + 3) % 4))) (arcN X ((head X d).1, ((head X d).2 + 3) % 4)) = _
    rfl
  have k1 := key hd; have k2 := key he; rw [h1] at k1; rw [h2] at k2
  refine ⟨k2.symm, ?_⟩
  rw [k1, h.other_other (isPl_turn (h.isPl_head hd) 3)]
end
end Go.Proofs.YtgjmjbgicfkojaaGreat.Kn

namespace Go.Proofs.YtgjmjbgicfkojaaGreat.Kn

theorem labels {N : Nat} {R : Nat → Nat → Prop} (hR : Equivalence R) : ∃ (lab : Nat → Nat) (vs : List Nat), (∀ x y, R x y → lab x = lab y) ∧ (∀ x, R (lab x) x) ∧ (∀ x, lab x ≤ x) ∧ vs.Nodup ∧ vs.length = cl N R ∧ ∀ v, v ∈ vs ↔ v < N ∧ lab v = v := by
  obtain ⟨lab, hl⟩ := Classical.axiomOfChoice (least_of hR)
  refine ⟨lab, (List.range N).filter fun d => tr (Least R d), fun x y h => ?_, fun x => (hl x).2.1, fun x => (hl x).1, ?_, ?_, fun v => ?_⟩
  · exact least_eq hR (hl x).2.2 (hl y).2.2 (hR.trans (hl x).2.1 (hR.trans h (hR.symm (hl y).2.1)))
  · exact List.nodup_range.sublist List.filter_sublist
  · unfold cl; rw [List.countP_eq_length_filter]
  · rw [List.mem_filter, List.mem_range, tr_iff]
    constructor
    · rintro ⟨h1, h2⟩; exact ⟨h1, least_eq hR (hl v).2.2 h2 (hl v).2.1⟩
    · rintro ⟨h1, h2⟩
      have := (hl v).2.2; rw [h2] at this
      exact ⟨h1, this⟩
theorem cl_ge {N : Nat} {R : Nat → Nat → Prop} (hR : Equivalence R) {g : Nat → Nat} (hg : ∀ x y, x < N → R x y → g x = g y) {vs : List Nat} (hn : vs.Nodup) (hv : ∀ v ∈ vs, ∃ x, x < N ∧ g x = v) : vs.length ≤ cl N R := by
  obtain ⟨lab, us, h1, h2, h3, h4, h5, h6⟩ := labels (N := N) hR
  have := nodup_le (m := us.map g) hn fun v hv' => by
    obtain ⟨x, hx, rfl⟩ := hv v hv'
    have hl : lab x < N := by have := h3 x; omega
    exact List.mem_map.2 ⟨lab x, (h6 _).2 ⟨hl, h1 _ _ (h2 x)⟩, hg _ _ hl (h2 x)⟩
  rw [List.length_map, h5] at this
  exact this
theorem cl_le {N M : Nat} {R R' : Nat → Nat → Prop} (hR : Equivalence R) (hR' : Equivalence R') {f : Nat → Nat} (hf : ∀ x y, x < N → y < N → R x y → R' (f x) (f y)) {es : List Nat} (hc : ∀ z, z < M → (∃ x, x < N ∧ R' (f x) z) ∨ ∃ e ∈ es, R' e z) : cl M R' ≤ cl N R + es.length := by
  obtain ⟨lab, us, h1, h2, h3, h4, h5, h6⟩ := labels (N := N) hR; obtain ⟨lab', us', k1, k2, k3, k4, k5, k6⟩ := labels (N := M) hR'
  have := nodup_le (m := us.map (fun u => lab' (f u)) ++ es.map lab') k4 fun v hv => by
    obtain ⟨v1, v2⟩ := (k6 v).1 hv; rw [List.mem_append]
    rcases hc v v1 with ⟨x, hx, e⟩ | ⟨e, he, k⟩
    · have hl : lab x < N := by have := h3 x; omega
      refine .inl (List.mem_map.2 ⟨lab x, (h6 _).2 ⟨hl, h1 _ _ (h2 x)⟩, ?_⟩)
      rw [← v2]
      exact k1 _ _ (hR'.trans (hf _ _ hl hx (h2 x)) e)
    · refine .inr (List.mem_map.2 ⟨e, he, ?_⟩)
      rw [← v2]
      exact k1 _ _ k
  rw [List.length_append, List.length_map, List.length_map, h5, k5] at this
  exact this

def up (p : Pl) : Pl := (p.1, (p.2 + 1) % 4)
section
variable {X Y : List Cr}
theorem isPl_up {p : Pl} (hp : isPl X p) : isPl X (up p) := isPl_turn hp 1
theorem Ok.fac_up (h : Ok X) {p : Pl} (hp : isPl X p) : fac X (pk (up p)) = pk (other X p) := by
  rw [h.fac_pk (isPl_up hp)]; have : ((up p).1, ((up p).2 + 3) % 4) = p := Prod.ext rfl (by have := hp.2; unfold up; simp only; omega); rw [this]
theorem Ok.fac_all (_h : Ok X) {x : Nat} (hx : x < 4 * X.length) : ∃ p, isPl X p ∧ x = pk (up p) := by
  refine ⟨(x / 4, (x % 4 + 3) % 4), ⟨by show x / 4 < _; omega, Nat.mod_lt _ (by omega)⟩, ?_⟩
  unfold pk up; simp only; omega
theorem Ok.faces_ge (h : Ok Y) {L : Pl → Nat} (hL : ∀ p, isPl Y p → L (Kn.other Y p) = L (up p)) {vs : List Nat} (hn : vs.Nodup) (hv : ∀ v ∈ vs, ∃ p, isPl Y p ∧ L p = v) : vs.length ≤ (facesL Y).length := by
  rw [← h.cl_faces]
  refine cl_ge h.fac_pm.equiv (g := fun k => L (pl k)) (fun x y hx k => ?_) hn fun v hv' => ?_
  · have := k.ind (P := fun y => y < 4 * Y.length ∧ L (pl x) = L (pl y)) (fun z hz => ⟨h.fac_pm.lt z hz.1, ?_⟩) ⟨hx, rfl⟩
    · exact this.2
    · obtain ⟨p, hp, rfl⟩ := h.fac_all hz.1
      rw [h.fac_up hp, pl_pk (h.isPl_other hp).2, hL p hp, hz.2, pl_pk (isPl_up hp).2]
  · obtain ⟨p, hp, e⟩ := hv v hv'
    exact ⟨pk p, pk_lt hp, by show L (pl (pk p)) = v; rw [pl_pk hp.2]; exact e⟩
theorem Ok.face_lab (h : Ok X) : ∃ (L : Pl → Nat) (vs : List Nat), (∀ p, isPl X p → L (Kn.other X p) = L (up p)) ∧ vs.Nodup ∧ vs.length = (facesL X).length ∧ (∀ v ∈ vs, v < 4 * X.length ∧ ∃ p, isPl X p ∧ L p = v) := by
  obtain ⟨lab, us, h1, h2, h3, h4, h5, h6⟩ := labels (N := 4 * X.length) h.fac_pm.equiv
  refine ⟨fun p => lab (pk p), us, fun p hp => ?_, h4, h5.trans h.cl_faces, fun v hv => ?_⟩
  · show lab (pk (Kn.other X p)) = lab (pk (up p))
    rw [← h.fac_up hp]
    exact (h1 _ _ (Orb.one _ _)).symm
  · obtain ⟨k1, k2⟩ := (h6 v).1 hv
    refine ⟨k1, pl v, isPl_pl k1, ?_⟩
    show lab (pk (pl v)) = v
    have : pk (pl v) = v := by unfold pk pl; simp only; omega
    rw [this, k2]
theorem Ok.face_part (h : Ok X) {P Q : Pl} (hP : isPl X P) (hQ : isPl X Q) (hne : P ≠ Q) (ho : Orb (fac X) (pk P) (pk Q)) : ∃ (L : Pl → Nat) (vs : List Nat),
    (∀ p, isPl X p → L (if Kn.other X p = P then Q else if Kn.other X p = Q then P else Kn.other X p) = L (up p)) ∧ vs.Nodup ∧ vs.length = (facesL X).length + 1 ∧ (∀ v ∈ vs, v < 4 * X.length ∧ ∃ p, isPl X p ∧ L p = v) := by
  have hpm := h.fac_pm.swp (pk_lt hP) (pk_lt hQ); obtain ⟨lab, us, h1, h2, h3, h4, h5, h6⟩ := labels (N := 4 * X.length) hpm.equiv
  have hne' : pk P ≠ pk Q := fun e => hne (pk_inj hP.2 hQ.2 e)
  refine ⟨fun p => lab (pk p), us, fun p hp => ?_, h4, ?_, fun v hv => ?_⟩
  · show lab (pk _) = lab (pk (up p))
    have := h1 _ _ (Orb.one (fun x => swp (pk P) (pk Q) (fac X x)) (pk (up p))); rw [this]
    show lab _ = lab (swp (pk P) (pk Q) (fac X (pk (up p))))
    rw [h.fac_up hp]; have hop := h.isPl_other hp
    by_cases c1 : Kn.other X p = P
    · rw [if_pos c1, c1, swp_a]
    · rw [if_neg c1]
      by_cases c2 : Kn.other X p = Q
      · rw [if_pos c2, c2, swp_b]
      · rw [if_neg c2, swp_ne (fun e => c1 (pk_inj hop.2 hP.2 e)) (fun e => c2 (pk_inj hop.2 hQ.2 e))]
  · have := cl_part h.fac_pm (pk_lt hP) (pk_lt hQ) hne' ho
    rw [h5, ← this, h.cl_faces]
  · obtain ⟨k1, k2⟩ := (h6 v).1 hv
    refine ⟨k1, pl v, isPl_pl k1, ?_⟩
    show lab (pk (pl v)) = v
    have : pk (pl v) = v := by unfold pk pl; simp only; omega
    rw [this, k2]

def Ln (X : List Cr) (p q : Pl) : Prop := pie X (pk p) (pk q)
theorem Ln.refl (p : Pl) : Ln X p p := (com_equiv (sig_pm X.length) (ens X)).refl _
theorem Ln.symm {p q : Pl} (h : Ln X p q) : Ln X q p := (com_equiv (sig_pm X.length) (ens X)).symm h
theorem Ln.trans {p q r : Pl} (h : Ln X p q) (k : Ln X q r) : Ln X p r := (com_equiv (sig_pm X.length) (ens X)).trans h k
theorem Ln.round {p q : Pl} (hp : isPl X p) (hq : q.2 < 4) (e : p.1 = q.1) : Ln X p q :=
  com_sub ((sig_orb (pk_lt hp)).2 (by rw [pk_div hp.2, pk_div hq, e]))
theorem Ok.ln_other (h : Ok X) {p : Pl} (hp : isPl X p) : Ln X p (Kn.other X p) := by
  obtain ⟨e, he, k⟩ := h.mem_ens hp; have := com_pair (sig_pm X.length) he
  unfold Ln
  rcases k with ⟨k1, k2⟩ | ⟨k1, k2⟩
  · rw [k1, k2]; exact this
  · rw [k1, k2]; exact (com_equiv (sig_pm X.length) (ens X)).symm this
theorem Ok.pieces_le (hX : Ok X) (hY : Ok Y) (hl : X.length ≤ Y.length) (h1 : ∀ p, isPl X p → Ln Y p (Kn.other X p)) {es : List Pl} (h2 : ∀ p, isPl Y p → X.length ≤ p.1 → (∃ q, isPl X q ∧ Ln Y q p) ∨ ∃ e ∈ es, Ln Y e p) : (piecesL Y).length ≤ (piecesL X).length + es.length := by
  rw [← hX.cl_pieces, ← hY.cl_pieces]; have hE := com_equiv (sig_pm Y.length) (ens Y)
  have key : ∀ x y, pie X x y → pie Y x y := fun x y k => by
    refine com_least hE (fun x => ?_) (fun e he => ?_) k
    · by_cases c : x < 4 * X.length
      · have hpl : isPl Y (pl x) := isPl_pl (by omega)
        have := Ln.round (X := Y) hpl (q := ((pl x).1, ((pl x).2 + 3) % 4)) (Nat.mod_lt _ (by omega)) rfl
        unfold Ln at this
        rw [← sig_pk (n := X.length) (p := pl x) (by unfold pl; simp only; omega) (Nat.mod_lt _ (by omega))] at this
        have e : pk (pl x) = x := by unfold pk pl; simp only; omega
        rwa [e] at this
      · rw [(sig_pm X.length).out x (by omega)]
        exact hE.refl x
    · obtain ⟨a, ha, rfl⟩ := List.mem_map.1 he
      have ha := mem_arcs.1 ha; have := h1 _ (hX.isPl_end (io := true) ha)
      unfold Ln other at this
      rw [hX.cm_end ha, hX.arc_end ha] at this
      exact this
  have := cl_le (N := 4 * X.length) (M := 4 * Y.length) (com_equiv (sig_pm X.length) (ens X)) hE (f := fun x => x) (fun x y _ _ k => key x y k) (es := es.map pk) fun z hz => by
    by_cases c : z < 4 * X.length
    · exact .inl ⟨z, c, hE.refl z⟩
    · have e : pk (pl z) = z := by unfold pk pl; simp only; omega
      rcases h2 (pl z) (isPl_pl hz) (by unfold pl; simp only; omega) with ⟨q, hq, k⟩ | ⟨q, hq, k⟩
      · unfold Ln at k; rw [e] at k
        exact .inl ⟨pk q, pk_lt hq, k⟩
      · unfold Ln at k; rw [e] at k
        exact .inr ⟨pk q, List.mem_map.2 ⟨q, hq, rfl⟩, k⟩
  rw [List.length_map] at this
  exact this
theorem Ok.planar_of (hX : Ok X) (hY : Ok Y) (hp : planarB X = true) {k f c : Nat} (hl : Y.length = X.length + k) (hf : (facesL X).length + f ≤ (facesL Y).length) (hc : (piecesL Y).length ≤ (piecesL X).length + c) (hk : k + 2 * c ≤ f) : planarB Y = true := by
  rw [hY.planar_iff]; have h1 := hX.planar_iff.1 hp; have h2 := hY.euler.1
  omega

theorem ok_all (h1 : ∀ p, isPl Y p → 1 ≤ at_ Y p ∧ at_ Y p ≤ (nArcs Y : Int)) (h2 : ∀ (io : Bool) (a : Nat), Kn.isArc Y a → ∃ p, isPl Y p ∧ cm Y p = io ∧ at_ Y p = a) : Ok Y := by
  refine ok_mk h1 h2 ?_
  have h3 : ∀ x : Nat, ∃ q : Nat, x < 4 * Y.length → ∃ p, isPl Y p ∧ cm Y p = decide (x % 2 = 0) ∧ at_ Y p = ((x / 2 + 1 : Nat) : Int) ∧ pk p = q := fun x => by
    by_cases c : x < 4 * Y.length
    · obtain ⟨p, hp, e1, e2⟩ := h2 (decide (x % 2 = 0)) (x / 2 + 1) ⟨by omega, by unfold nArcs; omega⟩
      exact ⟨pk p, fun _ => ⟨p, hp, e1, e2, rfl⟩⟩
    · exact ⟨0, fun k => absurd k c⟩
  obtain ⟨g, hg⟩ := Classical.axiomOfChoice h3
  have hperm : ((List.range (4 * Y.length)).map g).Perm (List.range (4 * Y.length)) := by
    refine perm_of_sub (map_nodup List.nodup_range fun x hx y hy e => ?_) List.nodup_range (fun z hz => ?_) (by simp)
    · obtain ⟨p, p1, p2, p3, p4⟩ := hg x (List.mem_range.1 hx)
      obtain ⟨q, q1, q2, q3, q4⟩ := hg y (List.mem_range.1 hy); have : p = q := pk_inj p1.2 q1.2 (by rw [p4, q4, e]); subst this; rw [p2, decide_eq_decide] at q2
      omega
    · obtain ⟨x, hx, rfl⟩ := List.mem_map.1 hz
      obtain ⟨p, p1, _, _, p4⟩ := hg x (List.mem_range.1 hx); rw [← p4]
      exact List.mem_range.2 (pk_lt p1)
  have key : ∀ p, isPl Y p → g (2 * ((at_ Y p).toNat - 1) + if cm Y p then 0 else 1) = pk p := fun p hp => by
    obtain ⟨x, hx, e⟩ := List.mem_map.1 (hperm.mem_iff.2 (List.mem_range.2 (pk_lt hp))); obtain ⟨q, q1, q2, q3, q4⟩ := hg x (List.mem_range.1 hx); have : q = p := pk_inj q1.2 hp.2 (by rw [q4, e]); subst this; rw [q2, q3, ← e]
    congr 1
    by_cases c : x % 2 = 0
    · simp [c]; omega
    · simp [c]; omega
  intro p q hp hq hc ha
  exact pk_inj hp.2 hq.2 (by rw [← key p hp, ← key q hq, hc, ha])
theorem Ok.other_of (h : Ok Y) {p q : Pl} (hp : isPl Y p) (hq : isPl Y q) (hc : cm Y q = !cm Y p) (ha : at_ Y q = at_ Y p) : Kn.other Y p = q := by
  refine h.uniq _ _ (h.isPl_other hp) hq (by rw [h.cm_other hp, hc]) ?_
  rw [← h.arcN_eq (h.isPl_other hp), h.arc_other hp, h.arcN_eq hp, ha]
end
end Go.Proofs.YtgjmjbgicfkojaaGreat.Kn

namespace Go.Proofs.YtgjmjbgicfkojaaGreat.Kn

structure Back (X S : List Cr) (gone : Nat → Bool) (ρ : Nat → Nat) : Prop where
  okX : Ok X
  ok : Ok S
  len : X.length ≤ S.length
  out : ∀ c, c < S.length → gone c = decide (X.length ≤ c)
  pl : ∀ p, isPl X p → ρ (arcN S p) = arcN X p
  plus : ∀ c, c < X.length → (cr S c).p = (cr X c).p
  low : ∀ b, b ≤ nArcs X → ρ b = b
  le : ∀ b, ρ b ≤ b
  tie : ∀ c s, X.length ≤ c → c < S.length → s < 4 → ρ (arcN S (c, s)) = ρ (arcN S (c, (s + 2) % 4))
  same : ∀ b, isArc S b → com (fun x => x) (classE S gone S.length) b (ρ b)
theorem cr_ext {x y : Cr} (h : ∀ s, s < 4 → x.arc s = y.arc s) (k : x.p = y.p) : x = y := by
  obtain ⟨a, b, c, d, p⟩ := x; obtain ⟨a', b', c', d', p'⟩ := y; have h0 := h 0 (by omega); have h1 := h 1 (by omega); have h2 := h 2 (by omega); have h3 := h 3 (by omega)
  simp [Cr.arc] at h0 h1 h2 h3 k
  subst h0 h1 h2 h3 k
  rfl
theorem list_cr {X Y : List Cr} (hl : X.length = Y.length) (h : ∀ i, i < Y.length → cr X i = cr Y i) : X = Y := by
  refine List.ext_getElem hl fun i h1 h2 => ?_
  have := h i h2
  unfold cr at this
  rwa [List.getD_eq_getElem?_getD, List.getD_eq_getElem?_getD, List.getElem?_eq_getElem h1, List.getElem?_eq_getElem h2] at this
section
variable {X S : List Cr} {gone : Nat → Bool} {ρ : Nat → Nat}
theorem Back.arcs (h : Back X S gone ρ) : nArcs X ≤ nArcs S := by have := h.len; unfold nArcs; omega
theorem Back.apart (h : Back X S gone ρ) {b c : Nat} (k : com (fun x => x) (classE S gone S.length) b c) : ρ b = ρ c := by
  refine com_least (R := fun b c => ρ b = ρ c) ⟨fun _ => rfl, fun h => h.symm, fun h k => h.trans k⟩ (fun _ => rfl) (fun e he => ?_) k
  obtain ⟨c, hc, hg, k⟩ := mem_classE.1 he
  have hg := h.out c hc ▸ hg
  have hg : X.length ≤ c := by simpa using hg
  rcases k with rfl | rfl
  · exact h.tie c _ hg hc (over_lt _)
  · exact h.tie c 0 hg hc (by omega)
theorem Back.class (h : Back X S gone ρ) {b : Nat} (hb : isArc S b) : classF S gone S.length b = ρ b := by
  have hr := h.ok.class_rep gone S.length (Nat.le_refl _); have e1 := (hr.iff b (ρ b)).2 (h.same b hb); have e2 := h.apart ((hr.iff _ _).1 (hr.idem b)); have e3 := h.le (classF S gone S.length b); have e4 := hr.le (ρ b)
  omega
theorem Back.kept (h : Back X S gone ρ) : Kn.kept S.length gone = List.range X.length := by
  have : ∀ m, X.length + m ≤ S.length → Kn.kept (X.length + m) gone = List.range X.length := fun m => by
    induction m with
    | zero =>
      intro _
      unfold Kn.kept
      refine List.filter_eq_self.2 fun c hc => ?_
      have := List.mem_range.1 hc; rw [h.out c (by omega)]
      simp; omega
    | succ m ih =>
      intro hm
      unfold Kn.kept at ih ⊢
      rw [← Nat.add_assoc, List.range_succ, List.filter_append, ih (by omega)]
      have : gone (X.length + m) = true := by rw [h.out _ (by omega)]; simp
      simp [this]
  have := this (S.length - X.length) (by have := h.len; omega)
  rwa [show X.length + (S.length - X.length) = S.length by have := h.len; omega] at this
theorem Back.plx (h : Back X S gone ρ) {p : Pl} (hp : isPl X p) : isPl S p := ⟨by have := hp.1; have := h.len; omega, hp.2⟩
theorem Back.left (h : Back X S gone ρ) {r : Nat} (hr : isArc S r) : leftB S (classF S gone S.length) gone r = decide (r ≤ nArcs X) := by
  rw [Bool.eq_iff_iff, leftB_iff, decide_eq_true_eq]
  constructor
  · rintro ⟨p, hp, hg, e⟩
    rw [h.class (h.ok.isArc hp)] at e; rw [h.out p.1 hp.1] at hg; have hpX : isPl X p := ⟨by simpa using hg, hp.2⟩; rw [h.pl p hpX] at e; rw [← e]
    exact (h.okX.isArc hpX).2
  · intro k
    have hX : isArc X r := ⟨hr.1, k⟩; have hp := h.okX.isPl_end (io := true) hX
    refine ⟨_, h.plx hp, ?_, ?_⟩
    · rw [h.out _ (h.plx hp).1]
      have := hp.1
      simp; omega
    · rw [h.class (h.ok.isArc (h.plx hp)), h.pl _ hp, h.okX.arc_end hX]
theorem Back.num (h : Back X S gone ρ) : ∀ v, v ≤ nArcs X → numF S (classF S gone S.length) gone v = v
  | 0, _ => rfl
  | v + 1, hv => by
    have ha : isArc S (v + 1) := ⟨by omega, by have := h.arcs; omega⟩; rw [numF_succ, h.num v (by omega)]
    have : rootB S (classF S gone S.length) gone (v + 1) = true := by
      unfold rootB
      rw [h.left ha, h.class ha, h.low _ hv]
      simp; omega
    rw [if_pos this]
theorem Back.take (h : Back X S gone ρ) : takeL S gone = X := by
  have hk := h.kept
  have hl : (Kn.kept S.length gone).length = X.length := by rw [hk, List.length_range]
  refine list_cr (by rw [takeL_len, hl]) fun i hi => ?_
  unfold takeL
  rw [withL_cr (by rw [hl]; exact hi)]
  have e : (Kn.kept S.length gone).getD i 0 = i := by rw [hk, List.getD_eq_getElem?_getD, List.getElem?_range hi]; rfl
  rw [e]
  refine cr_ext (fun s hs => ?_) (h.plus i hi)
  rw [ren_arc]; have hp : isPl X (i, s) := ⟨hi, hs⟩
  have e1 : classF S gone S.length (arcN S (i, s)) = arcN X (i, s) := by rw [h.class (h.ok.isArc (h.plx hp)), h.pl _ hp]
  have e2 := h.num (arcN X (i, s)) (h.okX.isArc hp).2; rw [← e1] at e2; have e3 := h.okX.arcN_eq hp; rw [← e1, ← e2] at e3
  exact e3
theorem Back.rings (h : Back X S gone ρ) : takeN S gone = (List.range (nArcs S)).countP fun a => decide (ρ (a + 1) = a + 1) && decide (nArcs X < a + 1) := by
  unfold takeN ringN
  refine countP_congr' fun a ha => ?_
  have ha := List.mem_range.1 ha; have hr : isArc S (a + 1) := ⟨by omega, by omega⟩; rw [h.left hr, h.class hr]
  congr 1
  rw [Bool.eq_iff_iff]
  simp
theorem Back.none (h : Back X S gone ρ) (hn : ∀ b, isArc S b → ρ b ≤ nArcs X) : takeN S gone = 0 := by
  rw [h.rings, List.countP_eq_zero]
  intro a ha
  have ha := List.mem_range.1 ha; have := hn (a + 1) ⟨by omega, by omega⟩
  simp; omega
end
end Go.Proofs.YtgjmjbgicfkojaaGreat.Kn

namespace Go.Proofs.YtgjmjbgicfkojaaGreat.Kn
structure CurlOf (X S : List Cr) (a ja jn : Nat) : Prop where
  len : S.length = X.length + 1
  cx : ∀ p, isPl X p → cm S p = cm X p
  ax : ∀ p, isPl X p → p ≠ endP X true a → at_ S p = at_ X p
  ap : at_ S (endP X true a) = (nArcs X : Int) + 2
  lj : ja < 4
  ln : jn < 4
  odd : (ja + jn) % 2 = 1
  c1 : cm S (X.length, ja) = true
  c2 : cm S (X.length, (ja + 2) % 4) = false
  c3 : cm S (X.length, jn) = true
  c4 : cm S (X.length, (jn + 2) % 4) = false
  a1 : at_ S (X.length, ja) = (a : Int)
  a2 : at_ S (X.length, (ja + 2) % 4) = (nArcs X : Int) + 1
  a3 : at_ S (X.length, jn) = (nArcs X : Int) + 1
  a4 : at_ S (X.length, (jn + 2) % 4) = (nArcs X : Int) + 2
def endC (X : List Cr) (a ja jn : Nat) (io : Bool) (b : Nat) : Pl :=
  if b = nArcs X + 1 then (if io then (X.length, jn) else (X.length, (ja + 2) % 4))
  else if b = nArcs X + 2 then (if io then endP X true a else (X.length, (jn + 2) % 4))
  else if b = a ∧ io = true then (X.length, ja) else endP X io b
section
variable {X S : List Cr} {a ja jn : Nat}
theorem CurlOf.arcsEq (h : CurlOf X S a ja jn) : nArcs S = nArcs X + 2 := by unfold nArcs; rw [h.len]; omega
theorem CurlOf.plx (h : CurlOf X S a ja jn) {p : Pl} (hp : isPl X p) : isPl S p := ⟨by have := hp.1; rw [h.len]; omega, hp.2⟩
theorem CurlOf.pln (h : CurlOf X S a ja jn) {s : Nat} (hs : s < 4) : isPl S (X.length, s) := ⟨by rw [h.len]; simp only; omega, hs⟩
theorem CurlOf.atEnd (h : CurlOf X S a ja jn) (hX : Ok X) (ha : isArc X a) {b : Nat} (hb : isArc S b) (io : Bool) : isPl S (endC X a ja jn io b) ∧ cm S (endC X a ja jn io b) = io ∧ at_ S (endC X a ja jn io b) = b := by
  have hN := h.arcsEq; have hb1 := hb.1; have hb2 := hb.2; have m2 : (ja + 2) % 4 < 4 := Nat.mod_lt _ (by omega); have m3 : (jn + 2) % 4 < 4 := Nat.mod_lt _ (by omega); have p1 := hX.isPl_end (io := true) ha
  unfold endC
  by_cases c : b = nArcs X + 1
  · rw [if_pos c]
    cases io
    · exact ⟨h.pln m2, h.c2, by rw [if_neg (by simp), h.a2]; omega⟩
    · exact ⟨h.pln h.ln, h.c3, by rw [if_pos rfl, h.a3]; omega⟩
  · rw [if_neg c]
    by_cases d : b = nArcs X + 2
    · rw [if_pos d]
      cases io
      · exact ⟨h.pln m3, h.c4, by rw [if_neg (by simp), h.a4]; omega⟩
      · exact ⟨h.plx p1, (h.cx _ p1).trans (hX.cm_end ha), by rw [if_pos rfl, h.ap]; omega⟩
    · rw [if_neg d]
      have hbX : isArc X b := ⟨hb1, by omega⟩
      by_cases e : b = a ∧ io = true
      · rw [if_pos e]
        exact ⟨h.pln h.lj, h.c1.trans e.2.symm, h.a1.trans (by rw [e.1])⟩
      · rw [if_neg e]
        have q1 := hX.isPl_end (io := io) hbX
        have hne : endP X io b ≠ endP X true a := fun k => by
          have e1 := hX.cm_end (io := io) hbX; have e2 := hX.arc_end (io := io) hbX; rw [k, hX.cm_end ha] at e1; rw [k, hX.arc_end ha] at e2
          exact e ⟨e2.symm, e1.symm⟩
        exact ⟨h.plx q1, (h.cx _ q1).trans (hX.cm_end hbX), (h.ax _ q1 hne).trans (hX.at_end hbX)⟩
theorem CurlOf.isEnd (h : CurlOf X S a ja jn) (hX : Ok X) (ha : isArc X a) {p : Pl} (hp : isPl S p) : (1 ≤ at_ S p ∧ at_ S p ≤ (nArcs S : Int)) ∧ endC X a ja jn (cm S p) (at_ S p).toNat = p := by
  have hN := h.arcsEq; have h1 := hp.1; rw [h.len] at h1; have ha1 := ha.1; have ha2 := ha.2
  unfold endC
  by_cases c : p.1 < X.length
  · have hpX : isPl X p := ⟨c, hp.2⟩
    have hr := hX.rng p hpX
    by_cases e : p = endP X true a
    · subst e
      rw [h.ap, h.cx _ hpX, hX.cm_end ha]
      refine ⟨⟨by omega, by omega⟩, ?_⟩
      rw [if_neg (by omega), if_pos (by omega), if_pos rfl]
    · rw [h.ax p hpX e, h.cx p hpX]
      have hb := hX.isArc hpX
      unfold Kn.arcN at hb
      refine ⟨⟨by omega, by omega⟩, ?_⟩
      rw [if_neg (by have := hb.2; omega), if_neg (by have := hb.2; omega), if_neg (fun k => ?_)]
      · exact hX.end_eq hpX
      · apply e
        have := hX.end_eq hpX
        unfold Kn.arcN at this
        rw [k.1, k.2] at this
        exact this.symm
  · obtain ⟨p1, s⟩ := p
    obtain rfl : p1 = X.length := by simp only at c h1; omega
    have hs : s < 4 := hp.2; have lj := h.lj; have ln := h.ln; have od := h.odd
    have four : s = ja ∨ s = (ja + 2) % 4 ∨ s = jn ∨ s = (jn + 2) % 4 := by omega
    rcases four with rfl | rfl | rfl | rfl
    · rw [h.c1, h.a1]
      refine ⟨⟨by omega, by omega⟩, ?_⟩
      rw [if_neg (by omega), if_neg (by omega), if_pos ⟨by omega, rfl⟩]
    · rw [h.c2, h.a2]
      refine ⟨⟨by omega, by omega⟩, ?_⟩
      rw [if_pos (by omega)]; rfl
    · rw [h.c3, h.a3]
      refine ⟨⟨by omega, by omega⟩, ?_⟩
      rw [if_pos (by omega)]; rfl
    · rw [h.c4, h.a4]
      refine ⟨⟨by omega, by omega⟩, ?_⟩
      rw [if_neg (by omega), if_pos (by omega)]; rfl
theorem CurlOf.ok (h : CurlOf X S a ja jn) (hX : Ok X) (ha : isArc X a) : Ok S :=
  ok_mk (fun p hp => (h.isEnd hX ha hp).1) (fun io b hb => ⟨_, h.atEnd hX ha hb io⟩) fun p q hp hq hc he => by
    rw [← (h.isEnd hX ha hp).2, ← (h.isEnd hX ha hq).2, hc, he]
end
end Go.Proofs.YtgjmjbgicfkojaaGreat.Kn

namespace Go.Proofs.YtgjmjbgicfkojaaGreat.Kn
theorem app_cr {Z : List Cr} {x : Cr} {i : Nat} (h : i < Z.length) : cr (Z ++ [x]) i = cr Z i := by
  unfold cr; rw [List.getD_eq_getElem?_getD, List.getD_eq_getElem?_getD, List.getElem?_append_left h]
theorem app_last {Z : List Cr} {x : Cr} : cr (Z ++ [x]) Z.length = x := by
  unfold cr; rw [List.getD_eq_getElem?_getD, List.getElem?_append_right (Nat.le_refl _), Nat.sub_self]; rfl
theorem cases4 {s a : Nat} (h : s < 4) (ha : a < 4) : s = a ∨ s = (a + 1) % 4 ∨ s = (a + 2) % 4 ∨ s = (a + 3) % 4 := by omega
section
variable {X S : List Cr} {a ja jn : Nat}
theorem CurlOf.others (h : CurlOf X S a ja jn) (hX : Ok X) (ha : isArc X a) :
    (∀ p, isPl X p → p ≠ endP X true a → p ≠ endP X false a → other S p = other X p) ∧ other S (endP X false a) = (X.length, ja) ∧ other S (endP X true a) = (X.length, (jn + 2) % 4) ∧
    other S (X.length, ja) = endP X false a ∧ other S (X.length, (jn + 2) % 4) = endP X true a ∧ other S (X.length, (ja + 2) % 4) = (X.length, jn) ∧ other S (X.length, jn) = (X.length, (ja + 2) % 4) := by
  have hS := h.ok hX ha; have m2 : (ja + 2) % 4 < 4 := Nat.mod_lt _ (by omega); have m3 : (jn + 2) % 4 < 4 := Nat.mod_lt _ (by omega); have pP := hX.isPl_end (io := true) ha; have pQ := hX.isPl_end (io := false) ha; have cP := hX.cm_end (io := true) ha; have cQ := hX.cm_end (io := false) ha
  have nPQ : endP X false a ≠ endP X true a := fun k => by rw [k, cP] at cQ; cases cQ
  have aQ := hX.at_end (io := false) ha; have e1 : other S (endP X false a) = (X.length, ja) := hS.other_of (h.plx pQ) (h.pln h.lj) (by rw [h.c1, h.cx _ pQ, cQ]; rfl) (by rw [h.a1, h.ax _ pQ nPQ, aQ]); have e2 : other S (endP X true a) = (X.length, (jn + 2) % 4) := hS.other_of (h.plx pP) (h.pln m3) (by rw [h.c4, h.cx _ pP, cP]; rfl) (by rw [h.a4, h.ap]); have e3 : other S (X.length, (ja + 2) % 4) = (X.length, jn) := hS.other_of (h.pln m2) (h.pln h.ln) (by rw [h.c2, h.c3]; rfl) (by rw [h.a2, h.a3])
  refine ⟨fun p hp n1 n2 => ?_, e1, e2, ?_, ?_, e3, ?_⟩
  · have ho := hX.isPl_other hp
    have n3 : other X p ≠ endP X true a := fun k => n2 (by
      rw [← hX.other_other hp, k]
      unfold other; rw [cP, hX.arc_end ha]; rfl)
    refine hS.other_of (h.plx hp) (h.plx ho) (by rw [h.cx _ ho, h.cx _ hp, hX.cm_other hp]) ?_
    rw [h.ax _ ho n3, h.ax _ hp n1, ← hX.arcN_eq ho, hX.arc_other hp, hX.arcN_eq hp]
  · rw [← e1, hS.other_other (h.plx pQ)]
  · rw [← e2, hS.other_other (h.plx pP)]
  · rw [← e3, hS.other_other (h.pln m2)]
theorem CurlOf.planar (h : CurlOf X S a ja jn) (hX : Ok X) (ha : isArc X a) (hp : planarB X = true) : planarB S = true := by
  have hS := h.ok hX ha; obtain ⟨o1, o2, o3, o4, o5, o6, o7⟩ := h.others hX ha; obtain ⟨L, vs, hL, hn, hlen, hv⟩ := hX.face_lab; have pP := hX.isPl_end (io := true) ha; have pQ := hX.isPl_end (io := false) ha; have lj := h.lj; have ln := h.ln; have od := h.odd
  have oPQ : other X (endP X true a) = endP X false a := by unfold other; rw [hX.cm_end ha, hX.arc_end ha]; rfl
  have oQP : other X (endP X false a) = endP X true a := by unfold other; rw [hX.cm_end ha, hX.arc_end ha]; rfl
  have hLP := hL _ pP; have hLQ := hL _ pQ; rw [oPQ] at hLP; rw [oQP] at hLQ
  obtain ⟨M, hM⟩ : ∃ M : Pl → Nat, ∀ p, M p = if p.1 < X.length then L p else
      if jn = (ja + 1) % 4 then (if p.2 = (ja + 2) % 4 then 4 * X.length else if p.2 = ja then L (endP X true a) else L (endP X false a))
      else (if p.2 = (ja + 3) % 4 then 4 * X.length else if p.2 = (ja + 1) % 4 then L (endP X false a) else L (endP X true a)) := ⟨_, fun _ => rfl⟩
  have hMX : ∀ p, isPl X p → M p = L p := fun p hp => by rw [hM, if_pos hp.1]
  have hMS : ∀ s, M (X.length, s) = if jn = (ja + 1) % 4 then (if s = (ja + 2) % 4 then 4 * X.length else if s = ja then L (endP X true a) else L (endP X false a))
      else (if s = (ja + 3) % 4 then 4 * X.length else if s = (ja + 1) % 4 then L (endP X false a) else L (endP X true a)) := fun s => by rw [hM, if_neg (Nat.lt_irrefl _)]
  have hF := hS.faces_ge (L := M) (fun p hp => ?_) (vs := vs ++ [4 * X.length]) (by
      rw [List.nodup_append]
      exact ⟨hn, by simp, fun x hx y hy => by
        rw [List.mem_singleton] at hy; have := (hv x hx).1
        omega⟩) fun v hv' => ?_
  · refine hX.planar_of hS hp (k := 1) (f := 1) (c := 0) h.len ?_ (hX.pieces_le hS (by rw [h.len]; omega) (fun p hp => ?_) (es := []) fun p hp hge => .inl ⟨endP X false a, pQ, ?_⟩) (by omega)
    · rw [List.length_append, hlen] at hF
      exact hF
    · by_cases c1 : p = endP X true a
      · subst c1
        rw [oPQ]; have k1 := hS.ln_other (h.plx pP); have k2 := hS.ln_other (h.plx pQ); rw [o3] at k1; rw [o2] at k2
        exact k1.trans ((Ln.round (p := (X.length, (jn + 2) % 4)) (q := (X.length, ja)) (h.pln (Nat.mod_lt _ (by omega))) lj rfl).trans k2.symm)
      · by_cases c2 : p = endP X false a
        · subst c2
          rw [oQP]; have k1 := hS.ln_other (h.plx pP); have k2 := hS.ln_other (h.plx pQ); rw [o3] at k1; rw [o2] at k2
          exact k2.trans ((Ln.round (p := (X.length, ja)) (q := (X.length, (jn + 2) % 4)) (h.pln h.lj) (Nat.mod_lt _ (by omega)) rfl).trans k1.symm)
        · have := hS.ln_other (h.plx hp)
          rwa [o1 p hp c1 c2] at this
    · have k2 := hS.ln_other (h.plx pQ)
      rw [o2] at k2; have h1 := hp.1; rw [h.len] at h1
      exact k2.trans (Ln.round (h.pln h.lj) hp.2 (by show X.length = p.1; omega))
  · by_cases c : p.1 < X.length
    · have hpX : isPl X p := ⟨c, hp.2⟩
      rw [hMX _ (isPl_up hpX)]
      by_cases c1 : p = endP X true a
      · subst c1
        rw [o3, hMS, ← hLP]
        by_cases d : jn = (ja + 1) % 4
        · rw [if_pos d, if_neg (by omega), if_neg (by omega)]
        · rw [if_neg d, if_neg (by omega), if_pos (by omega)]
      · by_cases c2 : p = endP X false a
        · subst c2
          rw [o2, hMS, ← hLQ]
          by_cases d : jn = (ja + 1) % 4
          · rw [if_pos d, if_neg (by omega), if_pos rfl]
          · rw [if_neg d, if_neg (by omega), if_neg (by omega)]
        · rw [o1 p hpX c1 c2, hMX _ (hX.isPl_other hpX), hL p hpX]
    · obtain ⟨p1, s⟩ := p
      have h1 := hp.1; rw [h.len] at h1
      obtain rfl : p1 = X.length := by simp only at c h1; omega
      have hs : s < 4 := hp.2
      show _ = M (X.length, (s + 1) % 4)
      by_cases d : jn = (ja + 1) % 4
      · rcases cases4 hs lj with e | e | e | e
        · rw [e, o4, hMX _ pQ, hMS, if_pos d, if_neg (by omega), if_neg (by omega)]
        · rw [e, ← d, o7, hMS, hMS, if_pos d, if_pos rfl, if_pos d, if_pos (by omega)]
        · rw [e, o6, hMS, hMS, if_pos d, if_neg (by omega), if_neg (by omega), if_pos d, if_neg (by omega), if_neg (by omega)]
        · rw [e, show (ja + 3) % 4 = (jn + 2) % 4 by omega, o5, hMX _ pP, hMS, if_pos d, if_neg (by omega), if_pos (by omega)]
      · rcases cases4 hs lj with e | e | e | e
        · rw [e, o4, hMX _ pQ, hMS, if_neg d, if_neg (by omega), if_pos rfl]
        · rw [e, show (ja + 1) % 4 = (jn + 2) % 4 by omega, o5, hMX _ pP, hMS, if_neg d, if_neg (by omega), if_neg (by omega)]
        · rw [e, o6, hMS, hMS, if_neg d, if_pos (by omega), if_neg d, if_pos (by omega)]
        · rw [e, show (ja + 3) % 4 = jn by omega, o7, hMS, hMS, if_neg d, if_neg (by omega), if_neg (by omega), if_neg d, if_neg (by omega), if_neg (by omega)]
  · rw [List.mem_append, List.mem_singleton] at hv'
    rcases hv' with hv' | rfl
    · obtain ⟨_, p, hp, e⟩ := hv v hv'
      exact ⟨p, h.plx hp, by rw [hMX p hp, e]⟩
    · by_cases d : jn = (ja + 1) % 4
      · exact ⟨(X.length, (ja + 2) % 4), h.pln (Nat.mod_lt _ (by omega)), by rw [hMS, if_pos d, if_pos rfl]⟩
      · exact ⟨(X.length, (ja + 3) % 4), h.pln (Nat.mod_lt _ (by omega)), by rw [hMS, if_neg d, if_pos rfl]⟩
def curlR (n a b : Nat) : Nat := if b = n + 1 ∨ b = n + 2 then a else b
theorem CurlOf.back (h : CurlOf X S a ja jn) (hX : Ok X) (ha : isArc X a) : Back X S (only X.length) (curlR (nArcs X) a) := by
  have hS := h.ok hX ha; have hN := h.arcsEq; have ha2 := ha.2
  have hgone : only X.length X.length = true := by simp
  have hlt : X.length < S.length := by rw [h.len]; omega
  have num : ∀ {p v}, at_ S p = ((v : Nat) : Int) → arcN S p = v := fun {p v} e => by unfold arcN; rw [e]; rfl
  have n1 := num (v := a) h.a1; have n2 := num (v := nArcs X + 1) (by rw [h.a2]; omega); have n3 := num (v := nArcs X + 1) (by rw [h.a3]; omega); have n4 := num (v := nArcs X + 2) (by rw [h.a4]; omega)
  have ra : curlR (nArcs X) a a = a := by unfold curlR; rw [if_neg (by omega)]
  have rm : curlR (nArcs X) a (nArcs X + 1) = a := by unfold curlR; rw [if_pos (.inl rfl)]
  have rl : curlR (nArcs X) a (nArcs X + 2) = a := by unfold curlR; rw [if_pos (.inr rfl)]
  have all : ∀ s, s < 4 → curlR (nArcs X) a (arcN S (X.length, s)) = a := fun s hs => by
    have lj := h.lj; have ln := h.ln; have od := h.odd
    have four : s = ja ∨ s = (ja + 2) % 4 ∨ s = jn ∨ s = (jn + 2) % 4 := by omega
    rcases four with e | e | e | e
    · rw [e, n1, ra]
    · rw [e, n2, rm]
    · rw [e, n3, rm]
    · rw [e, n4, rl]
  refine ⟨hX, hS, by rw [h.len]; omega, fun c hc => ?_, fun p hp => ?_, fun c hc => ?_, fun b hb => ?_, fun b => ?_, fun c s h1 h2 h3 => ?_, fun b hb => ?_⟩
  · rw [h.len] at hc
    show decide _ = decide _
    rw [decide_eq_decide]; omega
  · by_cases c : p = endP X true a
    · subst c
      rw [num (v := nArcs X + 2) (by rw [h.ap]; omega), rl, hX.arc_end ha]
    · have e : arcN S p = arcN X p := by unfold arcN; rw [h.ax p hp c]
      have := (hX.isArc hp).2; rw [e]
      unfold curlR; rw [if_neg (by omega)]
  · have := h.cx (c, 1) ⟨hc, by show 1 < 4; omega⟩
    unfold cm Cr.comes over at this
    revert this
    cases (cr S c).p <;> cases (cr X c).p <;> simp
  · unfold curlR; rw [if_neg (by omega)]
  · unfold curlR; split <;> omega
  · rw [h.len] at h2
    obtain rfl : c = X.length := by omega
    rw [all s h3, all _ (Nat.mod_lt _ (by omega))]
  · have hE := com_id_equiv (classE S (only X.length) S.length)
    have t1 := tied_all (X := S) hlt hgone h.lj; have t2 := tied_all (X := S) hlt hgone h.ln; rw [n1, n2] at t1; rw [n3, n4] at t2
    unfold curlR
    split
    · rename_i c
      rcases c with rfl | rfl
      · exact hE.symm t1
      · exact hE.symm (hE.trans t1 t2)
    · exact hE.refl b
theorem CurlOf.take (h : CurlOf X S a ja jn) (hX : Ok X) (ha : isArc X a) : takeL S (only X.length) = X ∧ takeN S (only X.length) = 0 := by
  have hb := h.back hX ha
  refine ⟨hb.take, hb.none fun b hb => ?_⟩
  have hN := h.arcsEq; have := hb.2; have := ha.2
  unfold curlR; split <;> omega
theorem CurlOf.kink (h : CurlOf X S a ja jn) : ∃ s, s < 4 ∧ at_ S (X.length, s) = at_ S (X.length, (s + 1) % 4) := by
  have lj := h.lj; have ln := h.ln; have od := h.odd
  by_cases d : jn = (ja + 1) % 4
  · exact ⟨jn, ln, by rw [h.a3, show (jn + 1) % 4 = (ja + 2) % 4 by omega, h.a2]⟩
  · exact ⟨(ja + 2) % 4, Nat.mod_lt _ (by omega), by rw [h.a2, show ((ja + 2) % 4 + 1) % 4 = jn by omega, h.a3]⟩
end
end Go.Proofs.YtgjmjbgicfkojaaGreat.Kn

namespace Go.Proofs.YtgjmjbgicfkojaaGreat.Kn
structure LoopOf (X S : List Cr) (ja jn : Nat) : Prop where
  len : S.length = X.length + 1
  cx : ∀ p, isPl X p → cm S p = cm X p
  ax : ∀ p, isPl X p → at_ S p = at_ X p
  lj : ja < 4
  ln : jn < 4
  odd : (ja + jn) % 2 = 1
  c1 : cm S (X.length, ja) = true
  c2 : cm S (X.length, (ja + 2) % 4) = false
  c3 : cm S (X.length, jn) = true
  c4 : cm S (X.length, (jn + 2) % 4) = false
  a1 : at_ S (X.length, ja) = (nArcs X : Int) + 1
  a2 : at_ S (X.length, (ja + 2) % 4) = (nArcs X : Int) + 2
  a3 : at_ S (X.length, jn) = (nArcs X : Int) + 2
  a4 : at_ S (X.length, (jn + 2) % 4) = (nArcs X : Int) + 1
section
variable {X S : List Cr} {ja jn : Nat}
theorem LoopOf.arcsEq (h : LoopOf X S ja jn) : nArcs S = nArcs X + 2 := by unfold nArcs; rw [h.len]; omega
theorem LoopOf.plx (h : LoopOf X S ja jn) {p : Pl} (hp : isPl X p) : isPl S p := ⟨by have := hp.1; rw [h.len]; omega, hp.2⟩
theorem LoopOf.pln (h : LoopOf X S ja jn) {s : Nat} (hs : s < 4) : isPl S (X.length, s) := ⟨by rw [h.len]; simp only; omega, hs⟩
theorem LoopOf.ok (h : LoopOf X S ja jn) (hX : Ok X) : Ok S := by
  have hN := h.arcsEq; have lj := h.lj; have ln := h.ln; have od := h.odd; have m2 : (ja + 2) % 4 < 4 := Nat.mod_lt _ (by omega); have m3 : (jn + 2) % 4 < 4 := Nat.mod_lt _ (by omega)
  refine ok_all (fun p hp => ?_) fun io b hb => ?_
  · by_cases c : p.1 < X.length
    · have hpX : isPl X p := ⟨c, hp.2⟩
      have := hX.rng p hpX
      rw [h.ax p hpX]; omega
    · obtain ⟨p1, s⟩ := p
      have h1 := hp.1; rw [h.len] at h1
      obtain rfl : p1 = X.length := by simp only at c h1; omega
      have hs : s < 4 := hp.2
      have four : s = ja ∨ s = (ja + 2) % 4 ∨ s = jn ∨ s = (jn + 2) % 4 := by omega
      rcases four with e | e | e | e <;> rw [e]
      · rw [h.a1]; omega
      · rw [h.a2]; omega
      · rw [h.a3]; omega
      · rw [h.a4]; omega
  · have hb2 := hb.2
    by_cases c1 : b = nArcs X + 1
    · cases io
      · exact ⟨_, h.pln m3, h.c4, by rw [h.a4]; omega⟩
      · exact ⟨_, h.pln lj, h.c1, by rw [h.a1]; omega⟩
    · by_cases c2 : b = nArcs X + 2
      · cases io
        · exact ⟨_, h.pln m2, h.c2, by rw [h.a2]; omega⟩
        · exact ⟨_, h.pln ln, h.c3, by rw [h.a3]; omega⟩
      · have hbX : isArc X b := ⟨hb.1, by omega⟩
        have q1 := hX.isPl_end (io := io) hbX
        exact ⟨_, h.plx q1, (h.cx _ q1).trans (hX.cm_end hbX), (h.ax _ q1).trans (hX.at_end hbX)⟩
theorem LoopOf.others (h : LoopOf X S ja jn) (hX : Ok X) :
    (∀ p, isPl X p → other S p = other X p) ∧ other S (X.length, ja) = (X.length, (jn + 2) % 4) ∧ other S (X.length, (jn + 2) % 4) = (X.length, ja) ∧ other S (X.length, (ja + 2) % 4) = (X.length, jn) ∧ other S (X.length, jn) = (X.length, (ja + 2) % 4) := by
  have hS := h.ok hX; have m2 : (ja + 2) % 4 < 4 := Nat.mod_lt _ (by omega); have m3 : (jn + 2) % 4 < 4 := Nat.mod_lt _ (by omega)
  refine ⟨fun p hp => ?_, ?_, ?_, ?_, ?_⟩
  · have ho := hX.isPl_other hp
    refine hS.other_of (h.plx hp) (h.plx ho) (by rw [h.cx _ ho, h.cx _ hp, hX.cm_other hp]) ?_
    rw [h.ax _ ho, h.ax _ hp, ← hX.arcN_eq ho, hX.arc_other hp, hX.arcN_eq hp]
  · exact hS.other_of (h.pln h.lj) (h.pln m3) (by rw [h.c1, h.c4]; rfl) (by rw [h.a1, h.a4])
  · exact hS.other_of (h.pln m3) (h.pln h.lj) (by rw [h.c1, h.c4]; rfl) (by rw [h.a1, h.a4])
  · exact hS.other_of (h.pln m2) (h.pln h.ln) (by rw [h.c2, h.c3]; rfl) (by rw [h.a2, h.a3])
  · exact hS.other_of (h.pln h.ln) (h.pln m2) (by rw [h.c2, h.c3]; rfl) (by rw [h.a2, h.a3])
theorem LoopOf.planar (h : LoopOf X S ja jn) (hX : Ok X) (hp : planarB X = true) : planarB S = true := by
  have hS := h.ok hX; obtain ⟨o1, o2, o3, o4, o5⟩ := h.others hX; obtain ⟨L, vs, hL, hn, hlen, hv⟩ := hX.face_lab; have lj := h.lj; have ln := h.ln; have od := h.odd
  obtain ⟨M, hM⟩ : ∃ M : Pl → Nat, ∀ p, M p = if p.1 < X.length then L p else
      if jn = (ja + 1) % 4 then (if p.2 = ja then 4 * X.length else if p.2 = (ja + 2) % 4 then 4 * X.length + 1 else 4 * X.length + 2)
      else (if p.2 = (ja + 1) % 4 then 4 * X.length else if p.2 = (ja + 3) % 4 then 4 * X.length + 1 else 4 * X.length + 2) := ⟨_, fun _ => rfl⟩
  have hMX : ∀ p, isPl X p → M p = L p := fun p hp => by rw [hM, if_pos hp.1]
  have hMS : ∀ s, M (X.length, s) = if jn = (ja + 1) % 4 then (if s = ja then 4 * X.length else if s = (ja + 2) % 4 then 4 * X.length + 1 else 4 * X.length + 2)
      else (if s = (ja + 1) % 4 then 4 * X.length else if s = (ja + 3) % 4 then 4 * X.length + 1 else 4 * X.length + 2) := fun s => by rw [hM, if_neg (Nat.lt_irrefl _)]
  have hF := hS.faces_ge (L := M) (fun p hp => ?_) (vs := vs ++ [4 * X.length, 4 * X.length + 1, 4 * X.length + 2]) (by
      rw [List.nodup_append]
      exact ⟨hn, by simp, fun x hx y hy => by
        simp only [List.mem_cons, List.not_mem_nil, or_false] at hy; have := (hv x hx).1
        omega⟩) fun v hv' => ?_
  · refine hX.planar_of hS hp (k := 1) (f := 3) (c := 1) h.len ?_ (hX.pieces_le hS (by rw [h.len]; omega) (fun p hp => ?_) (es := [(X.length, 0)]) fun p hp hge => .inr ⟨(X.length, 0), by simp, ?_⟩) (by omega)
    · rw [List.length_append, hlen] at hF
      exact hF
    · have := hS.ln_other (h.plx hp)
      rwa [o1 p hp] at this
    · have h1 := hp.1
      rw [h.len] at h1
      exact Ln.round (p := (X.length, 0)) (h.pln (by omega)) hp.2 (by show X.length = p.1; omega)
  · by_cases c : p.1 < X.length
    · have hpX : isPl X p := ⟨c, hp.2⟩
      rw [hMX _ (isPl_up hpX), o1 p hpX, hMX _ (hX.isPl_other hpX), hL p hpX]
    · obtain ⟨p1, s⟩ := p
      have h1 := hp.1; rw [h.len] at h1
      obtain rfl : p1 = X.length := by simp only at c h1; omega
      have hs : s < 4 := hp.2
      have four : s = ja ∨ s = (ja + 2) % 4 ∨ s = jn ∨ s = (jn + 2) % 4 := by omega
      show _ = M (X.length, (s + 1) % 4)
      by_cases d : jn = (ja + 1) % 4
      · rcases four with e | e | e | e
        · rw [e, o2, hMS, hMS, if_pos d, if_pos d, if_neg (by omega), if_neg (by omega), if_neg (by omega), if_neg (by omega)]
        · rw [e, o4, hMS, hMS, if_pos d, if_pos d, if_neg (by omega), if_neg (by omega), if_neg (by omega), if_neg (by omega)]
        · rw [e, o5, hMS, hMS, if_pos d, if_pos d, if_neg (by omega), if_pos (by omega), if_neg (by omega), if_pos (by omega)]
        · rw [e, o3, hMS, hMS, if_pos d, if_pos d, if_pos (by omega), if_pos (by omega)]
      · rcases four with e | e | e | e
        · rw [e, o2, hMS, hMS, if_neg d, if_neg d, if_pos (by omega), if_pos (by omega)]
        · rw [e, o4, hMS, hMS, if_neg d, if_neg d, if_pos (by omega), if_neg d, if_neg (by omega), if_pos (by omega)]
        · rw [e, o5, hMS, hMS, if_neg d, if_neg d, if_neg (by omega), if_neg (by omega), if_neg (by omega), if_neg (by omega)]
        · rw [e, o3, hMS, hMS, if_neg d, if_neg d, if_neg (by omega), if_neg (by omega), if_neg (by omega), if_neg (by omega)]
  · rw [List.mem_append] at hv'
    rcases hv' with hv' | hv'
    · obtain ⟨_, p, hp, e⟩ := hv v hv'
      exact ⟨p, h.plx hp, by rw [hMX p hp, e]⟩
    · simp only [List.mem_cons, List.not_mem_nil, or_false] at hv'
      by_cases d : jn = (ja + 1) % 4
      · rcases hv' with rfl | rfl | rfl
        · exact ⟨(X.length, ja), h.pln lj, by rw [hMS, if_pos d, if_pos rfl]⟩
        · exact ⟨(X.length, (ja + 2) % 4), h.pln (Nat.mod_lt _ (by omega)), by rw [hMS, if_pos d, if_neg (by omega), if_pos rfl]⟩
        · exact ⟨(X.length, (ja + 1) % 4), h.pln (Nat.mod_lt _ (by omega)), by rw [hMS, if_pos d, if_neg (by omega), if_neg (by omega)]⟩
      · rcases hv' with rfl | rfl | rfl
        · exact ⟨(X.length, (ja + 1) % 4), h.pln (Nat.mod_lt _ (by omega)), by rw [hMS, if_neg d, if_pos rfl]⟩
        · exact ⟨(X.length, (ja + 3) % 4), h.pln (Nat.mod_lt _ (by omega)), by rw [hMS, if_neg d, if_neg (by omega), if_pos rfl]⟩
        · exact ⟨(X.length, ja), h.pln lj, by rw [hMS, if_neg d, if_neg (by omega), if_neg (by omega)]⟩
def loopR (n b : Nat) : Nat := if b = n + 2 then n + 1 else b
theorem LoopOf.back (h : LoopOf X S ja jn) (hX : Ok X) : Back X S (only X.length) (loopR (nArcs X)) := by
  have hS := h.ok hX; have hN := h.arcsEq
  have hgone : only X.length X.length = true := by simp
  have hlt : X.length < S.length := by rw [h.len]; omega
  have num : ∀ {p v}, at_ S p = ((v : Nat) : Int) → arcN S p = v := fun {p v} e => by unfold arcN; rw [e]; rfl
  have n1 := num (v := nArcs X + 1) (by rw [h.a1]; omega); have n2 := num (v := nArcs X + 2) (by rw [h.a2]; omega); have n3 := num (v := nArcs X + 2) (by rw [h.a3]; omega); have n4 := num (v := nArcs X + 1) (by rw [h.a4]; omega)
  have rm : loopR (nArcs X) (nArcs X + 1) = nArcs X + 1 := by unfold loopR; rw [if_neg (by omega)]
  have rl : loopR (nArcs X) (nArcs X + 2) = nArcs X + 1 := by unfold loopR; rw [if_pos rfl]
  have all : ∀ s, s < 4 → loopR (nArcs X) (arcN S (X.length, s)) = nArcs X + 1 := fun s hs => by
    have lj := h.lj; have ln := h.ln; have od := h.odd
    have four : s = ja ∨ s = (ja + 2) % 4 ∨ s = jn ∨ s = (jn + 2) % 4 := by omega
    rcases four with e | e | e | e
    · rw [e, n1, rm]
    · rw [e, n2, rl]
    · rw [e, n3, rl]
    · rw [e, n4, rm]
  refine ⟨hX, hS, by rw [h.len]; omega, fun c hc => ?_, fun p hp => ?_, fun c hc => ?_, fun b hb => ?_, fun b => ?_, fun c s h1 h2 h3 => ?_, fun b hb => ?_⟩
  · rw [h.len] at hc
    show decide _ = decide _
    rw [decide_eq_decide]; omega
  · have e : arcN S p = arcN X p := by unfold arcN; rw [h.ax p hp]
    have := (hX.isArc hp).2; rw [e]
    unfold loopR; rw [if_neg (by omega)]
  · have := h.cx (c, 1) ⟨hc, by show 1 < 4; omega⟩
    unfold cm Cr.comes over at this
    revert this
    cases (cr S c).p <;> cases (cr X c).p <;> simp
  · unfold loopR; rw [if_neg (by omega)]
  · unfold loopR; split <;> omega
  · rw [h.len] at h2
    obtain rfl : c = X.length := by omega
    rw [all s h3, all _ (Nat.mod_lt _ (by omega))]
  · have hE := com_id_equiv (classE S (only X.length) S.length)
    have t1 := tied_all (X := S) hlt hgone h.lj; rw [n1, n2] at t1
    unfold loopR
    split
    · rename_i c
      subst c
      exact hE.symm t1
    · exact hE.refl b
theorem LoopOf.take (h : LoopOf X S ja jn) (hX : Ok X) : takeL S (only X.length) = X ∧ takeN S (only X.length) = 1 := by
  have hb := h.back hX
  refine ⟨hb.take, ?_⟩
  rw [hb.rings, h.arcsEq, List.range_succ, List.range_succ, List.countP_append, List.countP_append]
  have : (List.range (nArcs X)).countP (fun a => decide (loopR (nArcs X) (a + 1) = a + 1) && decide (nArcs X < a + 1)) = 0 := by
    rw [List.countP_eq_zero]
    intro a ha
    have := List.mem_range.1 ha
    simp; omega
  rw [this]
  unfold loopR
  simp
theorem LoopOf.kink (h : LoopOf X S ja jn) : ∃ s, s < 4 ∧ at_ S (X.length, s) = at_ S (X.length, (s + 1) % 4) := by
  have lj := h.lj; have ln := h.ln; have od := h.odd
  by_cases d : jn = (ja + 1) % 4
  · exact ⟨jn, ln, by rw [h.a3, show (jn + 1) % 4 = (ja + 2) % 4 by omega, h.a2]⟩
  · exact ⟨(ja + 2) % 4, Nat.mod_lt _ (by omega), by rw [h.a2, show ((ja + 2) % 4 + 1) % 4 = jn by omega, h.a3]⟩
end
end Go.Proofs.YtgjmjbgicfkojaaGreat.Kn

namespace Go.Proofs.YtgjmjbgicfkojaaGreat.Kn
theorem ring_next' {α : Type} [DecidableEq α] (nx : α → α) : ∀ (k : Nat) (seen : List α) (x : α) (i : Nat) (h : i + 1 < (ring nx k seen x).length), (ring nx k seen x)[i + 1] = nx ((ring nx k seen x)[i]'(by omega))
  | 0, seen, x, i, h => by simp [ring] at h
  | k + 1, seen, x, i, h => by
    by_cases c : x ∈ seen
    · simp [ring_seen nx c] at h
    · have e := ring_new nx (k := k) c
      simp only [e, List.length_cons] at h
      cases i with
      | zero =>
        simp only [e, List.getElem_cons_succ, List.getElem_cons_zero]
        have h0 : 0 < (ring nx k (seen ++ [x]) (nx x)).length := by omega
        by_cases d : nx x ∈ seen ++ [x]
        · simp [ring_seen nx d] at h0
        · cases k with
          | zero => simp [ring] at h0
          | succ k => simp only [ring_new nx d, List.getElem_cons_zero]
      | succ i =>
        simp only [e, List.getElem_cons_succ]
        exact ring_next' nx k (seen ++ [x]) (nx x) i (by omega)
theorem rings_next' {α : Type} [DecidableEq α] (nx : α → α) (N : Nat) : ∀ (ds seen : List α), ∀ f ∈ rings nx N seen ds, ∀ (i : Nat) (h : i + 1 < f.length), f[i + 1] = nx (f[i]'(by omega))
  | [], seen, f, hf, _, _ => by rw [rings_nil] at hf; cases hf
  | d :: ds, seen, f, hf, i, h => by
    by_cases c : d ∈ seen
    · rw [rings_seen nx c] at hf
      exact rings_next' nx N ds seen f hf i h
    · rw [rings_new nx c] at hf
      rcases List.mem_cons.1 hf with rfl | hf
      · exact ring_next' nx N seen d i h
      · exact rings_next' nx N ds _ f hf i h
section
variable {X : List Cr}
theorem face_next {f : List Dt} (hf : f ∈ facesL X) (i : Nat) (h : i + 1 < f.length) : f[i + 1] = left X (f[i]'(by omega)) := rings_next' (left X) _ _ _ f hf i h
theorem Ok.face_arc (h : Ok X) {f : List Dt} (hf : f ∈ facesL X) {d : Dt} (hd : d ∈ f) : Kn.isArc X d.1 :=
  mem_darts.1 ((faces_perm h).mem_iff.1 (List.mem_flatten.2 ⟨_, hf, hd⟩))
theorem Ok.face_nodup (h : Ok X) {f : List Dt} (hf : f ∈ facesL X) : f.Nodup :=
  (List.pairwise_flatten.1 ((faces_perm h).nodup_iff.2 (darts_nodup X))).1 f hf
theorem Ok.dart_inj (h : Ok X) {a b : Dt} (ha : Kn.isArc X a.1) (hb : Kn.isArc X b.1) (e : pk (head X a) = pk (head X b)) : a = b :=
  h.head_inj ha hb (pk_inj (h.isPl_head ha).2 (h.isPl_head hb).2 e)
theorem Ok.face_is (h : Ok X) {f : List Dt} (hf : f ∈ facesL X) {d e : Dt} (hd : d ∈ f) (he : Kn.isArc X e.1) : e ∈ f ↔ Orb (fac X) (pk (head X d)) (pk (head X e)) := by
  have hm : f.map (fun d => pk (head X d)) ∈ (facesL X).map (List.map fun d => pk (head X d)) := List.mem_map.2 ⟨_, hf, rfl⟩; have key := h.faces_is _ hm (pk (head X d)) (List.mem_map.2 ⟨d, hd, rfl⟩) (pk (head X e)); rw [← key]
  constructor
  · intro k; exact List.mem_map.2 ⟨e, k, rfl⟩
  · intro k
    obtain ⟨g, hg, e'⟩ := List.mem_map.1 k; rw [← h.dart_inj (h.face_arc hf hg) he e']
    exact hg
theorem Ok.face_of (h : Ok X) {d : Dt} (hd : Kn.isArc X d.1) : ∃ f ∈ facesL X, d ∈ f := by
  obtain ⟨f, hf, k⟩ := List.mem_flatten.1 ((faces_perm h).mem_iff.2 (mem_darts.2 hd))
  exact ⟨f, hf, k⟩
theorem Ok.left_inj (h : Ok X) {a b : Dt} (ha : Kn.isArc X a.1) (hb : Kn.isArc X b.1) (e : left X a = left X b) : a = b := by
  have h1 := h.fac_head ha; have h2 := h.fac_head hb; rw [e] at h1
  exact h.dart_inj ha hb (h.fac_pm.inj _ _ (h1.trans h2.symm))
theorem Ok.left_mem (h : Ok X) {f : List Dt} (hf : f ∈ facesL X) {d : Dt} (hd : d ∈ f) : left X d ∈ f := by
  have ha := h.face_arc hf hd; rw [h.face_is hf hd (h.isArc_left ha)]
  exact ⟨1, h.fac_head ha⟩
theorem Ok.face_three (h : Ok X) {d e g : Dt} (hf : [d, e, g] ∈ facesL X) : Kn.isArc X d.1 ∧ Kn.isArc X e.1 ∧ Kn.isArc X g.1 ∧ left X d = e ∧ left X e = g ∧ left X g = d := by
  have a1 := h.face_arc hf (d := d) (by simp); have a2 := h.face_arc hf (d := e) (by simp); have a3 := h.face_arc hf (d := g) (by simp); have n1 : e = left X d := face_next hf 0 (by simp); have n2 : g = left X e := face_next hf 1 (by simp); have hn := h.face_nodup hf; have h3 := h.left_mem hf (d := g) (by simp)
  refine ⟨a1, a2, a3, n1.symm, n2.symm, ?_⟩
  simp only [List.mem_cons, List.not_mem_nil, or_false] at h3; simp only [List.nodup_cons, List.mem_cons, List.not_mem_nil, or_false, not_or] at hn
  rcases h3 with k | k | k
  · exact k
  · exact absurd (h.left_inj a3 a1 (k.trans n1)).symm hn.1.2
  · exact absurd (h.left_inj a3 a2 (k.trans n2)).symm hn.2.1
theorem Ok.face_ring (h : Ok X) {D : Nat → Dt} (ha : ∀ i, Kn.isArc X (D i).1) (hl : ∀ i, left X (D i) = D (i + 1)) : ∃ f ∈ facesL X, f.Nodup ∧ ∀ e, e ∈ f ↔ ∃ i, e = D i := by
  obtain ⟨f, hf, k⟩ := h.face_of (ha 0)
  have hall : ∀ i, D i ∈ f := fun i => by
    induction i with
    | zero => exact k
    | succ i ih => rw [← hl]; exact h.left_mem hf ih
  refine ⟨f, hf, h.face_nodup hf, fun e => ⟨fun he => ?_, fun ⟨i, hi⟩ => hi ▸ hall i⟩⟩
  have ho := (h.face_is hf k (h.face_arc hf he)).1 he; have := ho.ind (P := fun y => ∃ i, y = pk (head X (D i))) (fun x ⟨i, hx⟩ => ⟨i + 1, by rw [hx, ← hl, ← h.fac_head (ha i)]⟩) ⟨0, rfl⟩; obtain ⟨i, hi⟩ := this
  exact ⟨i, h.dart_inj (h.face_arc hf he) (ha i) hi⟩
end
end Go.Proofs.YtgjmjbgicfkojaaGreat.Kn

namespace Go.Proofs.YtgjmjbgicfkojaaGreat.Kn

def rayP (c b j : Nat) : Pl := (c, (j + 4 - b) % 4)
structure PushOf (X S : List Cr) (u v : Dt) (b0 b1 : Nat) : Prop where
  okX : Ok X
  au : isArc X u.1
  av : isArc X v.1
  ne : u.1 ≠ v.1
  len : S.length = X.length + 2
  cx : ∀ p, isPl X p → cm S p = cm X p
  ax : ∀ p, isPl X p → p ≠ endP X true u.1 → p ≠ endP X true v.1 → at_ S p = at_ X p
  pu : at_ S (endP X true u.1) = (nArcs X : Int) + 2
  pv : at_ S (endP X true v.1) = (nArcs X : Int) + 4
  lb0 : b0 < 4
  lb1 : b1 < 4
  a00 : at_ S (rayP X.length b0 0) = (nArcs X : Int) + 3
  a01 : at_ S (rayP X.length b0 1) = (nArcs X : Int) + 1
  a02 : at_ S (rayP X.length b0 2) = if v.2 then (v.1 : Int) else (nArcs X : Int) + 4
  a03 : at_ S (rayP X.length b0 3) = if u.2 then (nArcs X : Int) + 2 else (u.1 : Int)
  a10 : at_ S (rayP (X.length + 1) b1 0) = if v.2 then (nArcs X : Int) + 4 else (v.1 : Int)
  a11 : at_ S (rayP (X.length + 1) b1 1) = (nArcs X : Int) + 1
  a12 : at_ S (rayP (X.length + 1) b1 2) = (nArcs X : Int) + 3
  a13 : at_ S (rayP (X.length + 1) b1 3) = if u.2 then (u.1 : Int) else (nArcs X : Int) + 2
  c00 : cm S (rayP X.length b0 0) = !v.2
  c01 : cm S (rayP X.length b0 1) = u.2
  c02 : cm S (rayP X.length b0 2) = v.2
  c03 : cm S (rayP X.length b0 3) = !u.2
  c10 : cm S (rayP (X.length + 1) b1 0) = !v.2
  c11 : cm S (rayP (X.length + 1) b1 1) = !u.2
  c12 : cm S (rayP (X.length + 1) b1 2) = v.2
  c13 : cm S (rayP (X.length + 1) b1 3) = u.2
theorem ray_any {c b : Nat} {p : Pl} (hb : b < 4) (hp : p.2 < 4) (e : p.1 = c) : p = rayP c b 0 ∨ p = rayP c b 1 ∨ p = rayP c b 2 ∨ p = rayP c b 3 := by
  obtain ⟨x, y⟩ := p; obtain rfl : x = c := e
  unfold rayP
  simp only [Prod.mk.injEq, true_and] at hp ⊢
  omega
theorem ray_up {c b j : Nat} (hb : b < 4) : up (rayP c b j) = rayP c b (j + 1) := Prod.ext rfl (by unfold up rayP; simp only; omega)
theorem ray_four {c b : Nat} (hb : b < 4) : rayP c b 4 = rayP c b 0 := Prod.ext rfl (by unfold rayP; simp only; omega)
theorem ray_inj {c d b b' j k : Nat} (hb : b < 4) (_hb' : b' < 4) (e : rayP c b j = rayP d b' k) : c = d ∧ (b = b' → j % 4 = k % 4) := by
  unfold rayP at e
  injection e with e1 e2
  exact ⟨e1, fun q => by omega⟩
section
variable {X S : List Cr} {u v : Dt} {b0 b1 : Nat}
theorem PushOf.arcsEq (h : PushOf X S u v b0 b1) : nArcs S = nArcs X + 4 := by unfold nArcs; rw [h.len]; omega
theorem PushOf.plx (h : PushOf X S u v b0 b1) {p : Pl} (hp : isPl X p) : isPl S p := ⟨by have := hp.1; rw [h.len]; omega, hp.2⟩
theorem PushOf.pl0 (h : PushOf X S u v b0 b1) (j : Nat) : isPl S (rayP X.length b0 j) := ⟨by rw [h.len]; unfold rayP; simp only; omega, Nat.mod_lt _ (by omega)⟩
theorem PushOf.pl1 (h : PushOf X S u v b0 b1) (j : Nat) : isPl S (rayP (X.length + 1) b1 j) := ⟨by rw [h.len]; unfold rayP; simp only; omega, Nat.mod_lt _ (by omega)⟩
theorem PushOf.where (h : PushOf X S u v b0 b1) {p : Pl} (hp : isPl S p) : isPl X p ∨ (∃ j, j < 4 ∧ p = rayP X.length b0 j) ∨ ∃ j, j < 4 ∧ p = rayP (X.length + 1) b1 j := by
  have h1 := hp.1; rw [h.len] at h1
  have c : p.1 < X.length ∨ p.1 = X.length ∨ p.1 = X.length + 1 := by omega
  rcases c with c | c | c
  · exact .inl ⟨c, hp.2⟩
  · right; left
    rcases ray_any h.lb0 hp.2 c with e | e | e | e
    · exact ⟨0, by omega, e⟩
    · exact ⟨1, by omega, e⟩
    · exact ⟨2, by omega, e⟩
    · exact ⟨3, by omega, e⟩
  · right; right
    rcases ray_any h.lb1 hp.2 c with e | e | e | e
    · exact ⟨0, by omega, e⟩
    · exact ⟨1, by omega, e⟩
    · exact ⟨2, by omega, e⟩
    · exact ⟨3, by omega, e⟩
theorem PushOf.ends (h : PushOf X S u v b0 b1) (io : Bool) : (at_ S (endP X io u.1) = if io then (nArcs X : Int) + 2 else (u.1 : Int)) ∧ (at_ S (endP X io v.1) = if io then (nArcs X : Int) + 4 else (v.1 : Int)) := by
  have k : ∀ {a b io jo}, Kn.isArc X a → Kn.isArc X b → endP X io a = endP X jo b → a = b ∧ io = jo := fun {a b io jo} ha hb e => by
    have e1 := h.okX.arc_end (io := io) ha; have e2 := h.okX.cm_end (io := io) ha; rw [e, h.okX.arc_end hb] at e1; rw [e, h.okX.cm_end hb] at e2
    exact ⟨e1.symm, e2.symm⟩
  cases io
  · constructor
    · rw [h.ax _ (h.okX.isPl_end h.au) (fun e => by have := (k h.au h.au e).2; cases this) (fun e => h.ne (k h.au h.av e).1), h.okX.at_end h.au]; rfl
    · rw [h.ax _ (h.okX.isPl_end h.av) (fun e => h.ne (k h.av h.au e).1.symm) (fun e => by have := (k h.av h.av e).2; cases this), h.okX.at_end h.av]; rfl
  · exact ⟨h.pu, h.pv⟩
theorem PushOf.ok (h : PushOf X S u v b0 b1) : Ok S := by
  have hN := h.arcsEq; have u1 := h.au.1; have u2 := h.au.2; have v1 := h.av.1; have v2 := h.av.2
  refine ok_all (fun p hp => ?_) fun io b hb => ?_
  · rw [hN]
    rcases h.where hp with c | ⟨j, hj, rfl⟩ | ⟨j, hj, rfl⟩
    · have hr := h.okX.rng p c
      by_cases e : p = endP X true u.1
      · rw [e, h.pu]; omega
      · by_cases e' : p = endP X true v.1
        · rw [e', h.pv]; omega
        · rw [h.ax p c e e']; omega
    · have : j = 0 ∨ j = 1 ∨ j = 2 ∨ j = 3 := by omega
      rcases this with rfl | rfl | rfl | rfl
      · rw [h.a00]; omega
      · rw [h.a01]; omega
      · rw [h.a02]; split <;> omega
      · rw [h.a03]; split <;> omega
    · have : j = 0 ∨ j = 1 ∨ j = 2 ∨ j = 3 := by omega
      rcases this with rfl | rfl | rfl | rfl
      · rw [h.a10]; split <;> omega
      · rw [h.a11]; omega
      · rw [h.a12]; omega
      · rw [h.a13]; split <;> omega
  · have hb1 := hb.1
    have hb2 := hb.2
    by_cases e1 : b = nArcs X + 1
    · by_cases q : io = u.2
      · exact ⟨_, h.pl0 1, by rw [h.c01, q], by rw [h.a01]; omega⟩
      · exact ⟨_, h.pl1 1, by rw [h.c11]; revert q; cases io <;> cases u.2 <;> simp, by rw [h.a11]; omega⟩
    · by_cases e3 : b = nArcs X + 3
      · by_cases q : io = v.2
        · exact ⟨_, h.pl1 2, by rw [h.c12, q], by rw [h.a12]; omega⟩
        · exact ⟨_, h.pl0 0, by rw [h.c00]; revert q; cases io <;> cases v.2 <;> simp, by rw [h.a00]; omega⟩
      · by_cases e2 : b = nArcs X + 2
        · cases io
          · cases hu : u.2
            · exact ⟨_, h.pl1 3, by rw [h.c13, hu], by rw [h.a13, hu, if_neg (by simp)]; omega⟩
            · exact ⟨_, h.pl0 3, by rw [h.c03, hu]; rfl, by rw [h.a03, hu, if_pos rfl]; omega⟩
          · exact ⟨_, h.plx (h.okX.isPl_end (io := true) h.au), (h.cx _ (h.okX.isPl_end h.au)).trans (h.okX.cm_end h.au), by rw [h.pu]; omega⟩
        · by_cases e4 : b = nArcs X + 4
          · cases io
            · cases hv : v.2
              · exact ⟨_, h.pl0 2, by rw [h.c02, hv], by rw [h.a02, hv, if_neg (by simp)]; omega⟩
              · exact ⟨_, h.pl1 0, by rw [h.c10, hv]; rfl, by rw [h.a10, hv, if_pos rfl]; omega⟩
            · exact ⟨_, h.plx (h.okX.isPl_end (io := true) h.av), (h.cx _ (h.okX.isPl_end h.av)).trans (h.okX.cm_end h.av), by rw [h.pv]; omega⟩
          · have hbX : Kn.isArc X b := ⟨hb1, by omega⟩
            by_cases q : b = u.1 ∧ io = true
            · obtain ⟨rfl, rfl⟩ := q
              cases hu : u.2
              · exact ⟨_, h.pl0 3, by rw [h.c03, hu]; rfl, by rw [h.a03, hu, if_neg (by simp)]⟩
              · exact ⟨_, h.pl1 3, by rw [h.c13, hu], by rw [h.a13, hu, if_pos rfl]⟩
            · by_cases q' : b = v.1 ∧ io = true
              · obtain ⟨rfl, rfl⟩ := q'
                cases hv : v.2
                · exact ⟨_, h.pl1 0, by rw [h.c10, hv]; rfl, by rw [h.a10, hv, if_neg (by simp)]⟩
                · exact ⟨_, h.pl0 2, by rw [h.c02, hv], by rw [h.a02, hv, if_pos rfl]⟩
              · have q1 := h.okX.isPl_end (io := io) hbX
                have k : ∀ {a}, Kn.isArc X a → endP X io b = endP X true a → b = a ∧ io = true := fun {a} ha e => by
                  have e1 := h.okX.arc_end (io := io) hbX; have e2 := h.okX.cm_end (io := io) hbX; rw [e, h.okX.arc_end ha] at e1; rw [e, h.okX.cm_end ha] at e2
                  exact ⟨e1.symm, e2.symm⟩
                exact ⟨_, h.plx q1, (h.cx _ q1).trans (h.okX.cm_end hbX), (h.ax _ q1 (fun e => q (k h.au e)) (fun e => q' (k h.av e))).trans (h.okX.at_end hbX)⟩
theorem PushOf.o01 (h : PushOf X S u v b0 b1) : other S (rayP X.length b0 1) = rayP (X.length + 1) b1 1 := h.ok.other_of (h.pl0 1) (h.pl1 1) (by rw [h.c01, h.c11]) (by rw [h.a01, h.a11])
theorem PushOf.o11 (h : PushOf X S u v b0 b1) : other S (rayP (X.length + 1) b1 1) = rayP X.length b0 1 := by rw [← h.o01, h.ok.other_other (h.pl0 1)]
theorem PushOf.o12 (h : PushOf X S u v b0 b1) : other S (rayP (X.length + 1) b1 2) = rayP X.length b0 0 := h.ok.other_of (h.pl1 2) (h.pl0 0) (by rw [h.c12, h.c00]) (by rw [h.a12, h.a00])
theorem PushOf.o00 (h : PushOf X S u v b0 b1) : other S (rayP X.length b0 0) = rayP (X.length + 1) b1 2 := by rw [← h.o12, h.ok.other_other (h.pl1 2)]
theorem PushOf.cmE (h : PushOf X S u v b0 b1) {io : Bool} {a : Nat} (ha : Kn.isArc X a) : cm S (endP X io a) = io := (h.cx _ (h.okX.isPl_end ha)).trans (h.okX.cm_end ha)
theorem PushOf.oTU (h : PushOf X S u v b0 b1) : other S (endP X u.2 u.1) = rayP X.length b0 3 :=
  h.ok.other_of (h.plx (h.okX.isPl_end h.au)) (h.pl0 3) (by rw [h.c03, h.cmE h.au]) (by rw [h.a03, (h.ends u.2).1])
theorem PushOf.oHU (h : PushOf X S u v b0 b1) : other S (endP X (!u.2) u.1) = rayP (X.length + 1) b1 3 :=
  h.ok.other_of (h.plx (h.okX.isPl_end h.au)) (h.pl1 3) (by rw [h.c13, h.cmE h.au, Bool.not_not]) (by rw [h.a13, (h.ends (!u.2)).1]; cases u.2 <;> rfl)
theorem PushOf.oTV (h : PushOf X S u v b0 b1) : other S (endP X v.2 v.1) = rayP (X.length + 1) b1 0 :=
  h.ok.other_of (h.plx (h.okX.isPl_end h.av)) (h.pl1 0) (by rw [h.c10, h.cmE h.av]) (by rw [h.a10, (h.ends v.2).2])
theorem PushOf.oHV (h : PushOf X S u v b0 b1) : other S (endP X (!v.2) v.1) = rayP X.length b0 2 :=
  h.ok.other_of (h.plx (h.okX.isPl_end h.av)) (h.pl0 2) (by rw [h.c02, h.cmE h.av, Bool.not_not]) (by rw [h.a02, (h.ends (!v.2)).2]; cases v.2 <;> rfl)
theorem PushOf.o03 (h : PushOf X S u v b0 b1) : other S (rayP X.length b0 3) = endP X u.2 u.1 := by rw [← h.oTU, h.ok.other_other (h.plx (h.okX.isPl_end h.au))]
theorem PushOf.o13 (h : PushOf X S u v b0 b1) : other S (rayP (X.length + 1) b1 3) = endP X (!u.2) u.1 := by rw [← h.oHU, h.ok.other_other (h.plx (h.okX.isPl_end h.au))]
theorem PushOf.o10 (h : PushOf X S u v b0 b1) : other S (rayP (X.length + 1) b1 0) = endP X v.2 v.1 := by rw [← h.oTV, h.ok.other_other (h.plx (h.okX.isPl_end h.av))]
theorem PushOf.o02 (h : PushOf X S u v b0 b1) : other S (rayP X.length b0 2) = endP X (!v.2) v.1 := by rw [← h.oHV, h.ok.other_other (h.plx (h.okX.isPl_end h.av))]
theorem Ok.other_end (h : Ok X) {io : Bool} {a : Nat} (ha : Kn.isArc X a) : other X (endP X io a) = endP X (!io) a := by unfold other; rw [h.cm_end ha, h.arc_end ha]
theorem PushOf.oX (h : PushOf X S u v b0 b1) {p : Pl} (hp : isPl X p) (hu : arcN X p ≠ u.1) (hv : arcN X p ≠ v.1) : other S p = other X p := by
  have ho := h.okX.isPl_other hp
  have n : ∀ {q : Pl} {a : Nat} {io : Bool}, Kn.isArc X a → arcN X q ≠ a → q ≠ endP X io a := fun ha k e => k (by rw [e, h.okX.arc_end ha])
  have e := h.okX.arc_other hp
  refine h.ok.other_of (h.plx hp) (h.plx ho) (by rw [h.cx _ ho, h.cx _ hp, h.okX.cm_other hp]) ?_
  rw [h.ax _ ho (n h.au (by rw [e]; exact hu)) (n h.av (by rw [e]; exact hv)), h.ax _ hp (n h.au hu) (n h.av hv), ← h.okX.arcN_eq ho, e, h.okX.arcN_eq hp]
theorem PushOf.parts (h : PushOf X S u v b0 b1) {p : Pl} (hp : isPl X p) : p = endP X u.2 u.1 ∨ p = endP X (!u.2) u.1 ∨ p = endP X v.2 v.1 ∨ p = endP X (!v.2) v.1 ∨ (arcN X p ≠ u.1 ∧ arcN X p ≠ v.1) := by
  have e := h.okX.end_eq hp
  by_cases c : arcN X p = u.1
  · rw [c] at e
    by_cases q : cm X p = u.2
    · rw [q] at e; exact .inl e.symm
    · have : cm X p = !u.2 := by revert q; cases cm X p <;> cases u.2 <;> simp
      rw [this] at e; exact .inr (.inl e.symm)
  · by_cases c' : arcN X p = v.1
    · rw [c'] at e
      by_cases q : cm X p = v.2
      · rw [q] at e; exact .inr (.inr (.inl e.symm))
      · have : cm X p = !v.2 := by revert q; cases cm X p <;> cases v.2 <;> simp
        rw [this] at e; exact .inr (.inr (.inr (.inl e.symm)))
    · exact .inr (.inr (.inr (.inr ⟨c, c'⟩)))
theorem PushOf.planar (h : PushOf X S u v b0 b1) (hf : Orb (fac X) (pk (head X u)) (pk (head X v))) (hp : planarB X = true) : planarB S = true := by
  have hS := h.ok; have pHU := h.okX.isPl_end (io := !u.2) h.au; have pHV := h.okX.isPl_end (io := !v.2) h.av; have pTU := h.okX.isPl_end (io := u.2) h.au; have pTV := h.okX.isPl_end (io := v.2) h.av
  have hne : head X u ≠ head X v := fun e => h.ne (by rw [h.okX.head_inj h.au h.av e])
  obtain ⟨L, vs, hL, hn, hlen, hv⟩ := h.okX.face_part pHU pHV hne hf
  have far : ∀ {io jo}, endP X io u.1 ≠ endP X jo v.1 := fun {io jo} e => h.ne (by rw [← h.okX.arc_end (io := io) h.au, e, h.okX.arc_end h.av])
  have lTU := hL _ pTU; rw [h.okX.other_end h.au, if_pos rfl] at lTU; have lTV := hL _ pTV; rw [h.okX.other_end h.av, if_neg (fun e => far e.symm), if_pos rfl] at lTV
  have nb : ∀ {b : Bool}, b ≠ !b := fun {b} => by cases b <;> simp
  have lHU := hL _ pHU
  rw [h.okX.other_end h.au, Bool.not_not, if_neg (fun e => by
    have e2 := h.okX.cm_end (io := u.2) h.au; rw [e, h.okX.cm_end h.au] at e2
    exact nb e2.symm), if_neg far] at lHU
  have lHV := hL _ pHV
  rw [h.okX.other_end h.av, Bool.not_not, if_neg (fun e => far e.symm), if_neg (fun e => by
    have e2 := h.okX.cm_end (io := v.2) h.av; rw [e, h.okX.cm_end h.av] at e2
    exact nb e2.symm)] at lHV
  have lX : ∀ p, isPl X p → arcN X p ≠ u.1 → arcN X p ≠ v.1 → L (other X p) = L (up p) := fun p hp hu hv => by
    have := hL p hp
    rwa [if_neg (fun e => hu (by rw [← h.okX.arc_other hp, e]; exact h.okX.arc_end h.au)), if_neg (fun e => hv (by rw [← h.okX.arc_other hp, e]; exact h.okX.arc_end h.av))] at this
  obtain ⟨M, hM⟩ : ∃ M : Pl → Nat, ∀ p, M p = if p.1 < X.length then L p else if p.1 = X.length then
      (if p = rayP X.length b0 0 then L (endP X u.2 u.1) else if p = rayP X.length b0 1 then 4 * X.length else if p = rayP X.length b0 2 then L (endP X v.2 v.1) else L (endP X (!v.2) v.1))
      else (if p = rayP (X.length + 1) b1 0 then L (endP X (!u.2) u.1) else if p = rayP (X.length + 1) b1 1 then L (endP X v.2 v.1) else if p = rayP (X.length + 1) b1 2 then 4 * X.length else L (endP X u.2 u.1)) := ⟨_, fun _ => rfl⟩
  have hMX : ∀ p, isPl X p → M p = L p := fun p hp => by rw [hM, if_pos hp.1]
  have l0 := h.lb0; have l1 := h.lb1
  have d0 : ∀ {j k}, j % 4 ≠ k % 4 → rayP X.length b0 j ≠ rayP X.length b0 k := fun q e => q ((ray_inj l0 l0 e).2 rfl)
  have d1 : ∀ {j k}, j % 4 ≠ k % 4 → rayP (X.length + 1) b1 j ≠ rayP (X.length + 1) b1 k := fun q e => q ((ray_inj l1 l1 e).2 rfl)
  have base0 : ∀ j, M (rayP X.length b0 j) = if rayP X.length b0 j = rayP X.length b0 0 then L (endP X u.2 u.1) else if rayP X.length b0 j = rayP X.length b0 1 then 4 * X.length else if rayP X.length b0 j = rayP X.length b0 2 then L (endP X v.2 v.1) else L (endP X (!v.2) v.1) := fun j => by
    rw [hM, if_neg (show ¬ (rayP X.length b0 j).1 < X.length from Nat.lt_irrefl _), if_pos (show (rayP X.length b0 j).1 = X.length from rfl)]
  have base1 : ∀ j, M (rayP (X.length + 1) b1 j) = if rayP (X.length + 1) b1 j = rayP (X.length + 1) b1 0 then L (endP X (!u.2) u.1) else if rayP (X.length + 1) b1 j = rayP (X.length + 1) b1 1 then L (endP X v.2 v.1) else if rayP (X.length + 1) b1 j = rayP (X.length + 1) b1 2 then 4 * X.length else L (endP X u.2 u.1) := fun j => by
    rw [hM, if_neg (show ¬ (rayP (X.length + 1) b1 j).1 < X.length from by unfold rayP; simp only; omega), if_neg (show ¬ (rayP (X.length + 1) b1 j).1 = X.length from by unfold rayP; simp only; omega)]
  have m00 : M (rayP X.length b0 0) = L (endP X u.2 u.1) := by rw [base0, if_pos rfl]
  have m01 : M (rayP X.length b0 1) = 4 * X.length := by rw [base0, if_neg (d0 (by omega)), if_pos rfl]
  have m02 : M (rayP X.length b0 2) = L (endP X v.2 v.1) := by rw [base0, if_neg (d0 (by omega)), if_neg (d0 (by omega)), if_pos rfl]
  have m03 : M (rayP X.length b0 3) = L (endP X (!v.2) v.1) := by rw [base0, if_neg (d0 (by omega)), if_neg (d0 (by omega)), if_neg (d0 (by omega))]
  have m10 : M (rayP (X.length + 1) b1 0) = L (endP X (!u.2) u.1) := by rw [base1, if_pos rfl]
  have m11 : M (rayP (X.length + 1) b1 1) = L (endP X v.2 v.1) := by rw [base1, if_neg (d1 (by omega)), if_pos rfl]
  have m12 : M (rayP (X.length + 1) b1 2) = 4 * X.length := by rw [base1, if_neg (d1 (by omega)), if_neg (d1 (by omega)), if_pos rfl]
  have m13 : M (rayP (X.length + 1) b1 3) = L (endP X u.2 u.1) := by rw [base1, if_neg (d1 (by omega)), if_neg (d1 (by omega)), if_neg (d1 (by omega))]
  have hF := hS.faces_ge (L := M) (fun p hp => ?_) (vs := vs ++ [4 * X.length]) (by
      rw [List.nodup_append]
      exact ⟨hn, by simp, fun x hx y hy => by
        rw [List.mem_singleton] at hy; have := (hv x hx).1
        omega⟩) fun w hw => ?_
  · have rnd0 : ∀ j k, Ln S (rayP X.length b0 j) (rayP X.length b0 k) := fun j k => Ln.round (h.pl0 j) (h.pl0 k).2 rfl
    have rnd1 : ∀ j k, Ln S (rayP (X.length + 1) b1 j) (rayP (X.length + 1) b1 k) := fun j k => Ln.round (h.pl1 j) (h.pl1 k).2 rfl
    have n01 : Ln S (rayP X.length b0 1) (rayP (X.length + 1) b1 1) := by
      have := hS.ln_other (h.pl0 1); rwa [h.o01] at this
    have kTU : Ln S (endP X u.2 u.1) (rayP X.length b0 1) := by
      have := hS.ln_other (h.plx pTU); rw [h.oTU] at this; exact this.trans (rnd0 3 1)
    have kHU : Ln S (endP X (!u.2) u.1) (rayP X.length b0 1) := by
      have := hS.ln_other (h.plx pHU); rw [h.oHU] at this; exact this.trans ((rnd1 3 1).trans n01.symm)
    have kTV : Ln S (endP X v.2 v.1) (rayP X.length b0 1) := by
      have := hS.ln_other (h.plx pTV); rw [h.oTV] at this; exact this.trans ((rnd1 0 1).trans n01.symm)
    have kHV : Ln S (endP X (!v.2) v.1) (rayP X.length b0 1) := by
      have := hS.ln_other (h.plx pHV); rw [h.oHV] at this; exact this.trans (rnd0 2 1)
    refine h.okX.planar_of hS hp (k := 2) (f := 2) (c := 0) h.len ?_ (h.okX.pieces_le hS (by rw [h.len]; omega) (fun p hp => ?_) (es := []) fun p hp hge => .inl ⟨endP X u.2 u.1, pTU, ?_⟩) (by omega)
    · rw [List.length_append, hlen] at hF
      exact hF
    · rcases h.parts hp with rfl | rfl | rfl | rfl | ⟨hu, hv⟩
      · rw [h.okX.other_end h.au]; exact kTU.trans kHU.symm
      · rw [h.okX.other_end h.au, Bool.not_not]; exact kHU.trans kTU.symm
      · rw [h.okX.other_end h.av]; exact kTV.trans kHV.symm
      · rw [h.okX.other_end h.av, Bool.not_not]; exact kHV.trans kTV.symm
      · have := hS.ln_other (h.plx hp)
        rwa [h.oX hp hu hv] at this
    · rcases h.where hp with c | ⟨j, _, rfl⟩ | ⟨j, _, rfl⟩
      · exact absurd c.1 (by omega)
      · exact kTU.trans (rnd0 1 j)
      · exact kTU.trans (n01.trans (rnd1 1 j))
  · rcases h.where hp with c | ⟨j, hj, rfl⟩ | ⟨j, hj, rfl⟩
    · rw [hMX _ (isPl_up c)]
      rcases h.parts c with rfl | rfl | rfl | rfl | ⟨hu, hv⟩
      · rw [h.oTU, m03, lTU]
      · rw [h.oHU, m13, lHU]
      · rw [h.oTV, m10, lTV]
      · rw [h.oHV, m02, lHV]
      · rw [h.oX c hu hv, hMX _ (h.okX.isPl_other c), lX p c hu hv]
    · rw [ray_up l0]
      have : j = 0 ∨ j = 1 ∨ j = 2 ∨ j = 3 := by omega
      rcases this with rfl | rfl | rfl | rfl
      · rw [h.o00, m12, m01]
      · rw [h.o01, m11, m02]
      · rw [h.o02, hMX _ pHV, m03]
      · rw [h.o03, hMX _ pTU, ray_four l0, m00]
    · rw [ray_up l1]
      have : j = 0 ∨ j = 1 ∨ j = 2 ∨ j = 3 := by omega
      rcases this with rfl | rfl | rfl | rfl
      · rw [h.o10, hMX _ pTV, m11]
      · rw [h.o11, m01, m12]
      · rw [h.o12, m00, m13]
      · rw [h.o13, hMX _ pHU, ray_four l1, m10]
  · rw [List.mem_append, List.mem_singleton] at hw
    rcases hw with hw | rfl
    · obtain ⟨_, p, hp, e⟩ := hv w hw
      exact ⟨p, h.plx hp, by rw [hMX p hp, e]⟩
    · exact ⟨_, h.pl0 1, m01⟩
end
end Go.Proofs.YtgjmjbgicfkojaaGreat.Kn

namespace Go.Proofs.YtgjmjbgicfkojaaGreat.Kn

def acr (p : Pl) : Pl := (p.1, (p.2 + 2) % 4)
def onE (X : List Cr) (e : Nat) (p : Pl) : Prop := p = inP X e ∨ p = acr (inP X e) ∨ p = acr (outP X e) ∨ p = outP X e
instance (X : List Cr) (e : Nat) (p : Pl) : Decidable (onE X e p) := by unfold onE; infer_instance
def tau1 (X : List Cr) (e : Nat) (p : Pl) : Pl :=
  if p = inP X e then acr (outP X e) else if p = acr (inP X e) then outP X e else if p = acr (outP X e) then inP X e else acr (inP X e)
def tauL (X : List Cr) : List Nat → Pl → Pl
  | [], p => p
  | e :: es, p => if onE X e p then tau1 X e p else tauL X es p
def slideL (X : List Cr) (es : List Nat) : List Cr :=
  (List.range X.length).map fun c => ⟨at_ X (tauL X es (c, 0)), at_ X (tauL X es (c, 1)), at_ X (tauL X es (c, 2)), at_ X (tauL X es (c, 3)), (cr X c).p⟩
def overA (X : List Cr) (a : Nat) : Bool := decide ((inP X a).2 % 2 = 1) && decide ((outP X a).2 % 2 = 1)
def overB (X : List Cr) (a : Nat) : Bool := (!decide ((inP X a).2 % 2 = 1)) && !decide ((outP X a).2 % 2 = 1)
def slidesB (X : List Cr) (f : List Dt) : Bool :=
  decide (f.length = 3) && decide ((f.map fun d => (head X (d.1, !d.2)).1).Nodup) && decide (f.countP (fun d => overA X d.1) = 1) && decide (f.countP (fun d => overB X d.1) = 1)
section
variable {X : List Cr}
theorem tauL_eq : ∀ {es : List Nat} {e : Nat} {p : Pl}, e ∈ es → onE X e p → (∀ e' ∈ es, onE X e' p → e' = e) → tauL X es p = tau1 X e p
  | [], _, _, h, _, _ => by cases h
  | a :: es, e, p, h, k, u => by
    unfold tauL
    by_cases c : onE X a p
    · rw [if_pos c, u a (by simp) c]
    · rw [if_neg c]
      refine tauL_eq ((List.mem_cons.1 h).resolve_left fun q => c (q ▸ k)) k fun e' he' => u e' (by simp [he'])
theorem tauL_out : ∀ {es : List Nat} {p : Pl}, (∀ e ∈ es, ¬ onE X e p) → tauL X es p = p
  | [], _, _ => rfl
  | a :: es, p, u => by
    unfold tauL
    rw [if_neg (u a (by simp)), tauL_out fun e he => u e (by simp [he])]
theorem slideL_len (X : List Cr) (es : List Nat) : (slideL X es).length = X.length := by simp [slideL]
theorem slideL_cr {es : List Nat} {c : Nat} (hc : c < X.length) : cr (slideL X es) c = ⟨at_ X (tauL X es (c, 0)), at_ X (tauL X es (c, 1)), at_ X (tauL X es (c, 2)), at_ X (tauL X es (c, 3)), (cr X c).p⟩ := by
  unfold cr slideL
  rw [List.getD_eq_getElem?_getD, List.getElem?_map, List.getElem?_range hc]; rfl
theorem slideL_isPl {es : List Nat} {p : Pl} : isPl (slideL X es) p ↔ isPl X p := by unfold isPl; rw [slideL_len]
theorem slideL_at {es : List Nat} {p : Pl} (hp : isPl X p) : at_ (slideL X es) p = at_ X (tauL X es p) := by
  obtain ⟨c, s⟩ := p; have hc : c < X.length := hp.1; have hs : s < 4 := hp.2
  show (cr (slideL X es) c).arc s = _
  rw [slideL_cr hc]
  match s, hs with
  | 0, _ => rfl
  | 1, _ => rfl
  | 2, _ => rfl
  | 3, _ => rfl
theorem slideL_cm {es : List Nat} {p : Pl} (hp : isPl X p) : cm (slideL X es) p = cm X p := by
  unfold cm Cr.comes; rw [slideL_cr hp.1]
end

structure Tri (X : List Cr) (D : Nat → Dt) : Prop where
  ok : Ok X
  arc : ∀ i, isArc X (D i).1
  nx : ∀ i, left X (D i) = D (i + 1)
  per : ∀ i, D (i + 3) = D i
  ne : ∀ i, (head X (D i)).1 ≠ (head X (D (i + 1))).1
def triP (X : List Cr) (D : Nat → Dt) (i k : Nat) : Pl := ((head X (D i)).1, ((head X (D i)).2 + k) % 4)
section
variable {X : List Cr} {D : Nat → Dt}
theorem Tri.pl (h : Tri X D) (i k : Nat) : isPl X (triP X D i k) := isPl_turn (h.ok.isPl_head (h.arc i)) k
theorem Tri.mul (h : Tri X D) (i : Nat) : ∀ m, D (i + 3 * m) = D i
  | 0 => rfl
  | m + 1 => by rw [show i + 3 * (m + 1) = i + 3 * m + 3 by omega, h.per, h.mul i m]
theorem Tri.mod (h : Tri X D) {i j : Nat} (e : i % 3 = j % 3) : D i = D j := by
  have h1 := h.mul (i % 3) (i / 3); have h2 := h.mul (j % 3) (j / 3); rw [show i % 3 + 3 * (i / 3) = i by omega] at h1; rw [show j % 3 + 3 * (j / 3) = j by omega] at h2; rw [h1, h2, e]
theorem Tri.pmod (h : Tri X D) {i j k l : Nat} (e : i % 3 = j % 3) (e' : k % 4 = l % 4) : triP X D i k = triP X D j l := by
  unfold triP; rw [h.mod e]
  exact Prod.ext rfl (by simp only; omega)
theorem Tri.apart (h : Tri X D) {i j : Nat} (e : (head X (D i)).1 = (head X (D j)).1) : i % 3 = j % 3 := by
  have key : ∀ i, (head X (D i)).1 ≠ (head X (D (i + 2))).1 := fun i e => by
    have := h.ne (i + 2); rw [show i + 2 + 1 = i + 3 by omega, h.per] at this
    exact this e.symm
  have c : i % 3 = j % 3 ∨ (i + 1) % 3 = j % 3 ∨ (i + 2) % 3 = j % 3 := by omega
  rcases c with c | c | c
  · exact c
  · rw [← h.mod c] at e; exact absurd e (h.ne i)
  · rw [← h.mod c] at e; exact absurd e (key i)
theorem Tri.pinj (h : Tri X D) {i j k l : Nat} (e : triP X D i k = triP X D j l) : i % 3 = j % 3 ∧ k % 4 = l % 4 := by
  unfold triP at e
  injection e with e1 e2
  have := h.apart e1; rw [h.mod this] at e2
  exact ⟨this, by omega⟩
theorem Tri.head0 (h : Tri X D) (i : Nat) : triP X D i 0 = head X (D i) := Prod.ext rfl (Nat.mod_eq_of_lt (h.ok.isPl_head (h.arc i)).2)
theorem Tri.other3 (h : Tri X D) (i : Nat) : other X (triP X D i 3) = triP X D (i + 1) 0 := by
  rw [h.head0, ← h.nx]
  rfl
theorem Tri.other0 (h : Tri X D) (i : Nat) : other X (triP X D i 0) = triP X D (i + 2) 3 := by
  have := h.other3 (i + 2); rw [h.pmod (i := i + 2 + 1) (j := i) (k := 0) (l := 0) (by omega) rfl] at this; rw [← this, h.ok.other_other (h.pl _ _)]
theorem Tri.up (i k : Nat) : Kn.up (triP X D i k) = triP X D i (k + 1) := Prod.ext rfl (by unfold Kn.up triP; simp only; omega)
theorem Tri.acr' (i k : Nat) : acr (triP X D i k) = triP X D i (k + 2) := Prod.ext rfl (by unfold acr triP; simp only; omega)
theorem Tri.place (h : Tri X D) {p : Pl} (hp : p.2 < 4) {i : Nat} (e : p.1 = (head X (D i)).1) : ∃ k, k < 4 ∧ p = triP X D i k := by
  have := (h.ok.isPl_head (h.arc i)).2
  exact ⟨(p.2 + 4 - (head X (D i)).2) % 4, Nat.mod_lt _ (by omega), Prod.ext e (by unfold triP; simp only; omega)⟩
theorem Tri.ends (h : Tri X D) (i : Nat) : (inP X (D i).1 = triP X D i 0 ∧ outP X (D i).1 = triP X D (i + 2) 3) ∨ (inP X (D i).1 = triP X D (i + 2) 3 ∧ outP X (D i).1 = triP X D i 0) := by
  have h0 := h.head0 i; have h1 := h.other0 i
  unfold other at h1
  rw [h0] at h1; have ha := h.arc i; have e1 : head X (D i) = endP X (!(D i).2) (D i).1 := rfl; rw [e1, h.ok.cm_end ha, h.ok.arc_end ha, Bool.not_not] at h1; rw [e1] at h0
  unfold inP outP
  unfold endP at h0 h1
  cases hb : (D i).2 with
  | false => rw [hb] at h0 h1; exact .inl ⟨h0.symm, h1⟩
  | true => rw [hb] at h0 h1; exact .inr ⟨h1, h0.symm⟩
theorem Tri.on (h : Tri X D) (i : Nat) {p : Pl} : onE X (D i).1 p ↔ p = triP X D i 0 ∨ p = triP X D i 2 ∨ p = triP X D (i + 2) 1 ∨ p = triP X D (i + 2) 3 := by
  have e5 : triP X D (i + 2) (3 + 2) = triP X D (i + 2) 1 := h.pmod rfl (by omega)
  unfold onE
  rcases h.ends i with ⟨e1, e2⟩ | ⟨e1, e2⟩ <;> rw [e1, e2, Tri.acr', Tri.acr', e5]
  constructor
  · rintro (a | a | a | a)
    · exact .inr (.inr (.inr a))
    · exact .inr (.inr (.inl a))
    · exact .inr (.inl a)
    · exact .inl a
  · rintro (a | a | a | a)
    · exact .inr (.inr (.inr a))
    · exact .inr (.inr (.inl a))
    · exact .inr (.inl a)
    · exact .inl a
theorem Tri.tau (h : Tri X D) (i : Nat) : tau1 X (D i).1 (triP X D i 0) = triP X D (i + 2) 1 ∧ tau1 X (D i).1 (triP X D i 2) = triP X D (i + 2) 3 ∧ tau1 X (D i).1 (triP X D (i + 2) 1) = triP X D i 0 ∧ tau1 X (D i).1 (triP X D (i + 2) 3) = triP X D i 2 := by
  have e5 : triP X D (i + 2) (3 + 2) = triP X D (i + 2) 1 := h.pmod rfl (by omega)
  have n : ∀ {i j k l}, (i % 3 ≠ j % 3 ∨ k % 4 ≠ l % 4) → triP X D i k ≠ triP X D j l := fun c e => by
    have := h.pinj e; omega
  unfold tau1
  rcases h.ends i with ⟨e1, e2⟩ | ⟨e1, e2⟩ <;> rw [e1, e2, Tri.acr', Tri.acr', e5]
  · refine ⟨if_pos rfl, ?_, ?_, ?_⟩
    · rw [if_neg (n (by omega)), if_pos rfl]
    · rw [if_neg (n (by omega)), if_neg (n (by omega)), if_pos rfl]
    · rw [if_neg (n (by omega)), if_neg (n (by omega)), if_neg (n (by omega))]
  · refine ⟨?_, ?_, ?_, if_pos rfl⟩
    · rw [if_neg (n (by omega)), if_neg (n (by omega)), if_neg (n (by omega))]
    · rw [if_neg (n (by omega)), if_neg (n (by omega)), if_pos rfl]
    · rw [if_neg (n (by omega)), if_pos rfl]
theorem Tri.uniq (h : Tri X D) {i j : Nat} {p : Pl} (h1 : onE X (D i).1 p) (h2 : onE X (D j).1 p) : i % 3 = j % 3 := by
  rw [h.on] at h1 h2
  rcases h1 with e | e | e | e <;> rcases h2 with k | k | k | k <;> (have := h.pinj (e.symm.trans k); omega)
end
def IsEs (D : Nat → Dt) (es : List Nat) : Prop := ∀ e, e ∈ es ↔ ∃ i, e = (D i).1
section
variable {X : List Cr} {D : Nat → Dt} {es : List Nat}
theorem Tri.tauL1 (h : Tri X D) (he : IsEs D es) (i : Nat) {p : Pl} (hp : onE X (D i).1 p) : tauL X es p = tau1 X (D i).1 p :=
  tauL_eq ((he _).2 ⟨i, rfl⟩) hp fun e' he' k => by
    obtain ⟨j, rfl⟩ := (he e').1 he'; rw [h.mod (h.uniq k hp)]
theorem Tri.t0 (h : Tri X D) (he : IsEs D es) (i : Nat) : tauL X es (triP X D i 0) = triP X D (i + 2) 1 := by
  rw [h.tauL1 he i ((h.on i).2 (.inl rfl))]; exact (h.tau i).1
theorem Tri.t2 (h : Tri X D) (he : IsEs D es) (i : Nat) : tauL X es (triP X D i 2) = triP X D (i + 2) 3 := by
  rw [h.tauL1 he i ((h.on i).2 (.inr (.inl rfl)))]; exact (h.tau i).2.1
theorem Tri.t1 (h : Tri X D) (he : IsEs D es) (i : Nat) : tauL X es (triP X D i 1) = triP X D (i + 1) 0 := by
  have e : triP X D i 1 = triP X D (i + 1 + 2) 1 := h.pmod (by omega) rfl
  rw [e, h.tauL1 he (i + 1) ((h.on _).2 (.inr (.inr (.inl rfl))))]; exact (h.tau (i + 1)).2.2.1
theorem Tri.t3 (h : Tri X D) (he : IsEs D es) (i : Nat) : tauL X es (triP X D i 3) = triP X D (i + 1) 2 := by
  have e : triP X D i 3 = triP X D (i + 1 + 2) 3 := h.pmod (by omega) rfl
  rw [e, h.tauL1 he (i + 1) ((h.on _).2 (.inr (.inr (.inr rfl))))]; exact (h.tau (i + 1)).2.2.2
theorem Tri.tx (h : Tri X D) (he : IsEs D es) {p : Pl} (hp : ∀ i, p.1 ≠ (head X (D i)).1) : tauL X es p = p :=
  tauL_out fun e k o => by
    obtain ⟨i, rfl⟩ := (he e).1 k; rw [h.on] at o
    rcases o with o | o | o | o
    · exact hp i (by rw [o]; rfl)
    · exact hp i (by rw [o]; rfl)
    · exact hp (i + 2) (by rw [o]; rfl)
    · exact hp (i + 2) (by rw [o]; rfl)
theorem Tri.any (h : Tri X D) {p : Pl} (hp : p.2 < 4) : (∃ i, p = triP X D i 0 ∨ p = triP X D i 1 ∨ p = triP X D i 2 ∨ p = triP X D i 3) ∨ ∀ i, p.1 ≠ (head X (D i)).1 := by
  by_cases c : ∃ i, p.1 = (head X (D i)).1
  · obtain ⟨i, e⟩ := c
    obtain ⟨k, hk, e⟩ := h.place hp e
    left
    refine ⟨i, ?_⟩
    have : k = 0 ∨ k = 1 ∨ k = 2 ∨ k = 3 := by omega
    rcases this with rfl | rfl | rfl | rfl
    · exact .inl e
    · exact .inr (.inl e)
    · exact .inr (.inr (.inl e))
    · exact .inr (.inr (.inr e))
  · exact .inr fun i e => c ⟨i, e⟩
theorem Tri.tau_pl (h : Tri X D) (he : IsEs D es) {p : Pl} (hp : isPl X p) : isPl X (tauL X es p) := by
  rcases h.any hp.2 with ⟨i, rfl | rfl | rfl | rfl⟩ | c
  · rw [h.t0 he]; exact h.pl _ _
  · rw [h.t1 he]; exact h.pl _ _
  · rw [h.t2 he]; exact h.pl _ _
  · rw [h.t3 he]; exact h.pl _ _
  · rw [h.tx he c]; exact hp
theorem Tri.tau_tau (h : Tri X D) (he : IsEs D es) {p : Pl} (hp : isPl X p) : tauL X es (tauL X es p) = p := by
  rcases h.any hp.2 with ⟨i, rfl | rfl | rfl | rfl⟩ | c
  · rw [h.t0 he, h.t1 he]; exact h.pmod (by omega) rfl
  · rw [h.t1 he, h.t0 he]; exact h.pmod (by omega) rfl
  · rw [h.t2 he, h.t3 he]; exact h.pmod (by omega) rfl
  · rw [h.t3 he, h.t2 he]; exact h.pmod (by omega) rfl
  · rw [h.tx he c, h.tx he c]
theorem Tri.cmo (h : Tri X D) (i : Nat) : cm X (triP X D (i + 2) 3) = !cm X (triP X D i 0) := by
  rw [← h.other0, h.ok.cm_other (h.pl _ _)]
theorem Tri.cmx (h : Tri X D) (i k : Nat) : cm X (triP X D i (k + 2)) = !cm X (triP X D i k) := by
  have := cm_opp (h.pl i k); rw [← this]
  congr 1
  exact Prod.ext rfl (by unfold triP; simp only; omega)
theorem Tri.tau_cm (h : Tri X D) (he : IsEs D es) {p : Pl} (hp : isPl X p) : cm X (tauL X es p) = cm X p := by
  rcases h.any hp.2 with ⟨i, rfl | rfl | rfl | rfl⟩ | c
  · rw [h.t0 he]
    have h1 := h.cmo i; have h2 := h.cmx (i + 2) 1; rw [h1] at h2
    simpa using h2.symm
  · rw [h.t1 he]
    have h1 := h.cmo (i + 1); rw [h.pmod (i := i + 1 + 2) (j := i) (k := 3) (l := 3) (by omega) rfl] at h1; have h2 := h.cmx i 1; rw [h1] at h2
    simpa using h2
  · rw [h.t2 he]
    have h1 := h.cmo i; have h2 := h.cmx i 0; rw [h1, h2]
  · rw [h.t3 he]
    have h1 := h.cmo (i + 1); rw [h.pmod (i := i + 1 + 2) (j := i) (k := 3) (l := 3) (by omega) rfl] at h1; have h2 := h.cmx (i + 1) 0; rw [h1, h2]
  · rw [h.tx he c]
theorem Tri.okY (h : Tri X D) (he : IsEs D es) : Ok (slideL X es) := by
  have hN : nArcs (slideL X es) = nArcs X := by unfold nArcs; rw [slideL_len]
  refine ok_all (fun p hp => ?_) fun io b hb => ?_
  · have hp := slideL_isPl.1 hp
    rw [slideL_at hp, hN]
    exact h.ok.rng _ (h.tau_pl he hp)
  · have hb : isArc X b := ⟨hb.1, hN ▸ hb.2⟩
    have hq := h.ok.isPl_end (io := io) hb; have ht := h.tau_pl he hq
    refine ⟨tauL X es (endP X io b), slideL_isPl.2 ht, ?_, ?_⟩
    · rw [slideL_cm ht, h.tau_cm he hq, h.ok.cm_end hb]
    · rw [slideL_at ht, h.tau_tau he hq, h.ok.at_end hb]
theorem Tri.otherY (h : Tri X D) (he : IsEs D es) {p : Pl} (hp : isPl X p) : other (slideL X es) p = tauL X es (other X (tauL X es p)) := by
  have hY := h.okY he; have ht := h.tau_pl he hp; have ho := h.ok.isPl_other ht; have hq := h.tau_pl he ho
  refine hY.other_of (slideL_isPl.2 hp) (slideL_isPl.2 hq) ?_ ?_
  · rw [slideL_cm hq, slideL_cm hp, h.tau_cm he ho, h.ok.cm_other ht, h.tau_cm he hp]
  · rw [slideL_at hq, slideL_at hp, h.tau_tau he ho, ← h.ok.arcN_eq ho, h.ok.arc_other ht, h.ok.arcN_eq ht]
def turnD (D : Nat → Dt) (i : Nat) : Dt := ((D i).1, !(D i).2)
theorem Tri.headY (h : Tri X D) (he : IsEs D es) (i : Nat) : head (slideL X es) (turnD D i) = triP X D i 2 := by
  have hY := h.okY he; have hp := h.pl i 2
  have e1 : cm (slideL X es) (triP X D i 2) = !(turnD D i).2 := by
    rw [slideL_cm hp, h.cmx i 0, h.head0]
    show (!cm X (endP X (!(D i).2) (D i).1)) = !!(D i).2
    rw [h.ok.cm_end (h.arc i)]
  have e2 : arcN (slideL X es) (triP X D i 2) = (turnD D i).1 := by
    unfold arcN
    rw [slideL_at hp, h.t2 he, ← h.other0]
    show arcN X (other X (triP X D i 0)) = (D i).1
    rw [h.ok.arc_other (h.pl _ _), h.head0]
    exact h.ok.arc_end (h.arc i)
  have := hY.end_eq (slideL_isPl.2 hp); rw [e1, e2] at this
  exact this
theorem Tri.leftY (h : Tri X D) (he : IsEs D es) (i : Nat) : left (slideL X es) (turnD D i) = turnD D (i + 1) := by
  have hY := h.okY he
  have harc : ∀ i, Kn.isArc (slideL X es) (turnD D i).1 := fun i => by
    have := h.arc i
    unfold Kn.isArc nArcs at this ⊢
    rw [slideL_len]; exact this
  refine hY.dart_inj (hY.isArc_left (harc i)) (harc _) ?_
  congr 1
  show other (slideL X es) ((head (slideL X es) (turnD D i)).1, ((head (slideL X es) (turnD D i)).2 + 3) % 4) = _
  rw [h.headY he, h.headY he]; have e : ((triP X D i 2).1, ((triP X D i 2).2 + 3) % 4) = triP X D i 1 := Prod.ext rfl (by unfold triP; simp only; omega); rw [e, h.otherY he (h.pl _ _), h.t1 he, h.other0, h.t3 he]
  exact h.pmod (by omega) rfl
theorem Tri.back (h : Tri X D) (he : IsEs D es) : Tri (slideL X es) (turnD D) := by
  refine ⟨h.okY he, fun i => ?_, h.leftY he, fun i => ?_, fun i => ?_⟩
  · have := h.arc i
    unfold Kn.isArc nArcs at this ⊢
    rw [slideL_len]; exact this
  · unfold turnD; rw [h.per]
  · rw [h.headY he, h.headY he]
    exact h.ne i
theorem Tri.triY (h : Tri X D) (he : IsEs D es) (i k : Nat) : triP (slideL X es) (turnD D) i k = triP X D i (k + 2) := by
  show ((head (slideL X es) (turnD D i)).1, ((head (slideL X es) (turnD D i)).2 + k) % 4) = _
  rw [h.headY he]
  exact Prod.ext rfl (by unfold triP; simp only; omega)
theorem Tri.again (h : Tri X D) (he : IsEs D es) {es' : List Nat} (he' : IsEs D es') : slideL (slideL X es) es' = X := by
  have hb := h.back he; have hE : IsEs (turnD D) es' := he'
  refine list_cr (by rw [slideL_len, slideL_len]) fun c hc => cr_ext (fun s hs => ?_) ?_
  · have hp : isPl X (c, s) := ⟨hc, hs⟩
    show at_ (slideL (slideL X es) es') (c, s) = at_ X (c, s)
    have hq : isPl (slideL X es) (c, s) := slideL_isPl.2 hp; rw [slideL_at hq]
    have key : tauL (slideL X es) es' (c, s) = tauL X es (c, s) := by
      have m4 : ∀ i k, triP X D i (k + 4) = triP X D i k := fun i k => h.pmod rfl (by omega)
      have y := fun i k => h.triY he i k
      generalize (c, s) = p at hp hq
      rcases h.any hp.2 with ⟨i, rfl | rfl | rfl | rfl⟩ | q
      · have := hb.t2 hE i
        rw [y, y, m4] at this; rw [this, h.t0 he]
        exact h.pmod rfl rfl
      · have := hb.t3 hE i
        rw [y, y] at this; rw [h.pmod (i := i) (j := i) (k := 1) (l := 3 + 2) rfl rfl, this, ← h.pmod (i := i) (j := i) (k := 1) (l := 3 + 2) rfl rfl, h.t1 he]
        exact h.pmod rfl rfl
      · have := hb.t0 hE i
        rw [y, y] at this; rw [this, h.t2 he]
      · have := hb.t1 hE i
        rw [y, y] at this; rw [this, h.t3 he]
      · rw [h.tx he q]
        refine hb.tx hE fun i => ?_
        rw [h.headY he]
        exact q i
    rw [key, slideL_at (h.tau_pl he hp), h.tau_tau he hp]
  · have e1 := slideL_cm (X := slideL X es) (es := es') (p := (c, 1)) ⟨by rw [slideL_len]; exact hc, by show 1 < 4; omega⟩
    rw [slideL_cr (by rw [slideL_len]; exact hc), slideL_cr hc]
end
end Go.Proofs.YtgjmjbgicfkojaaGreat.Kn

namespace Go.Proofs.YtgjmjbgicfkojaaGreat.Kn
section
variable {X : List Cr} {D : Nat → Dt} {es : List Nat}
theorem Tri.labels (h : Tri X D) {L : Pl → Nat} (hL : ∀ p, isPl X p → L (other X p) = L (Kn.up p)) :
    (∀ i j, L (triP X D i 0) = L (triP X D j 0)) ∧ ∀ i, L (triP X D i 3) = L (triP X D (i + 1) 1) := by
  have step : ∀ i, L (triP X D (i + 1) 0) = L (triP X D i 0) := fun i => by
    have := hL _ (h.pl i 3); rw [h.other3, Tri.up] at this; rw [this, h.pmod (i := i) (j := i) (k := 3 + 1) (l := 0) rfl rfl]
  have zero : ∀ i, L (triP X D i 0) = L (triP X D 0 0) := fun i => by
    induction i with
    | zero => rfl
    | succ i ih => rw [step, ih]
  refine ⟨fun i j => (zero i).trans (zero j).symm, fun i => ?_⟩
  have := hL _ (h.pl (i + 1) 0); rw [h.other0, Tri.up] at this; rw [← this]
  congr 1
  exact h.pmod (by omega) rfl
def slG (X : List Cr) (D : Nat → Dt) (L : Pl → Nat) (i k : Nat) : Nat :=
  if k = 0 then L (triP X D (i + 2) 1) else if k = 1 then L (triP X D (i + 2) 2) else if k = 2 then L (triP X D i 0) else L (triP X D (i + 1) 2)
theorem Tri.relabel (h : Tri X D) (L : Pl → Nat) : ∃ M : Pl → Nat, (∀ i k, k < 4 → M (triP X D i k) = slG X D L i k) ∧ ∀ p : Pl, (∀ i, p.1 ≠ (head X (D i)).1) → M p = L p := by
  refine ⟨fun p => @dite _ (∃ ik : Nat × Nat, ik.2 < 4 ∧ p = triP X D ik.1 ik.2) (Classical.propDecidable _) (fun e => slG X D L e.choose.1 e.choose.2) (fun _ => L p), fun i k hk => ?_, fun p hp => ?_⟩
  · have e : ∃ ik : Nat × Nat, ik.2 < 4 ∧ triP X D i k = triP X D ik.1 ik.2 := ⟨(i, k), hk, rfl⟩
    show @dite _ _ (Classical.propDecidable _) _ _ = _
    rw [dif_pos e]; have h1 := e.choose_spec.1; obtain ⟨h2, h3⟩ := h.pinj e.choose_spec.2; generalize e.choose = q at h1 h2 h3; obtain ⟨j, l⟩ := q
    obtain rfl : l = k := by simp only at h1 h3; omega
    simp only at h2 ⊢
    have m : ∀ a b, triP X D (j + a) b = triP X D (i + a) b := fun a b => h.pmod (by omega) rfl
    have m0 := m 0
    unfold slG
    rw [m, m, m]; simp only [Nat.add_zero] at m0; rw [m0]
  · show @dite _ _ (Classical.propDecidable _) _ _ = _
    rw [dif_neg]; rintro ⟨⟨i, k⟩, _, rfl⟩
    exact hp i rfl
theorem Tri.planar (h : Tri X D) (he : IsEs D es) (hp : planarB X = true) : planarB (slideL X es) = true := by
  have hY := h.okY he; obtain ⟨L, vs, hL, hn, hlen, hv⟩ := h.ok.face_lab; obtain ⟨M, hM, hMx⟩ := h.relabel L; obtain ⟨hT, hE⟩ := h.labels hL
  have oc : ∀ {p : Pl}, (∀ i, p.1 ≠ (head X (D i)).1) → ∀ i, (Kn.up p).1 ≠ (head X (D i)).1 := fun hp => hp
  have key : ∀ w, isPl X w → (∀ i, w ≠ triP X D i 0) → (∀ i, w ≠ triP X D i 3) → M (tauL X es w) = L w ∧ M (Kn.up (tauL X es w)) = L (Kn.up w) := fun w hw n0 n3 => by
    rcases h.any hw.2 with ⟨i, e | e | e | e⟩ | c
    · exact absurd e (n0 i)
    · subst e
      rw [h.t1 he, Tri.up, Tri.up, hM _ _ (by omega), hM _ _ (by omega)]
      unfold slG
      simp only [if_true, if_neg (show ¬ (0 + 1 = 0) by omega)]
      refine ⟨congrArg L (h.pmod (by omega) rfl), congrArg L (h.pmod (by omega) rfl)⟩
    · subst e
      rw [h.t2 he, Tri.up, Tri.up, hM _ _ (by omega), h.pmod (i := i + 2) (j := i + 2) (k := 3 + 1) (l := 0) rfl rfl, hM _ _ (by omega)]
      unfold slG
      simp only [if_true, if_neg (show ¬ (3 = 0) by omega), if_neg (show ¬ (3 = 1) by omega), if_neg (show ¬ (3 = 2) by omega)]
      refine ⟨congrArg L (h.pmod (by omega) rfl), ?_⟩
      rw [hE]
      exact congrArg L (h.pmod (by omega) rfl)
    · exact absurd e (n3 i)
    · rw [h.tx he c]
      exact ⟨hMx w c, hMx _ (oc c)⟩
  have hF := hY.faces_ge (L := M) (fun p hp => ?_) hn fun v hv' => ?_
  · rw [hlen] at hF
    refine h.ok.planar_of hY hp (k := 0) (f := 0) (c := 0) (slideL_len X es) hF (h.ok.pieces_le hY (by rw [slideL_len]; exact Nat.le_refl _) (fun p hp => ?_) (es := []) fun p hp hge => absurd hp.1 (by rw [slideL_len]; omega)) (by omega)
    have isY : ∀ i k, isPl (slideL X es) (triP X D i k) := fun i k => slideL_isPl.2 (h.pl i k)
    have rnd : ∀ i k l, Ln (slideL X es) (triP X D i k) (triP X D i l) := fun i k l => Ln.round (isY i k) (h.pl i l).2 rfl
    have nxt : ∀ i k l, Ln (slideL X es) (triP X D i k) (triP X D (i + 1) l) := fun i k l => by
      have h1 := hY.ln_other (isY i 1); rw [h.otherY he (h.pl _ _), h.t1 he, h.other0, h.t3 he, h.pmod (i := i + 1 + 2 + 1) (j := i + 1) (k := 2) (l := 2) (by omega) rfl] at h1
      exact (rnd i k 1).trans (h1.trans (rnd (i + 1) 2 l))
    have tau : ∀ w, isPl X w → Ln (slideL X es) w (tauL X es w) := fun w hw => by
      rcases h.any hw.2 with ⟨i, rfl | rfl | rfl | rfl⟩ | c
      · rw [h.t0 he]; exact (nxt i 0 1).trans (nxt (i + 1) 1 1)
      · rw [h.t1 he]; exact nxt i 1 0
      · rw [h.t2 he]; exact (nxt i 2 1).trans (nxt (i + 1) 1 3)
      · rw [h.t3 he]; exact nxt i 3 2
      · rw [h.tx he c]; exact Ln.refl _
    have ht := h.tau_pl he hp; have ho := hY.ln_other (slideL_isPl.2 ht); rw [h.otherY he ht, h.tau_tau he hp] at ho
    exact (tau p hp).trans (ho.trans (tau _ (h.ok.isPl_other hp)).symm)
  · have hp := slideL_isPl.1 hp
    have hw := h.tau_pl he hp; rw [h.otherY he hp]; have e := h.tau_tau he hp; generalize tauL X es p = w at hw e ⊢; rw [← e]
    by_cases c0 : ∃ i, w = triP X D i 0
    · obtain ⟨i, rfl⟩ := c0
      rw [h.other0, h.t3 he, h.t0 he, Tri.up, hM _ _ (by omega), hM _ _ (by omega)]
      unfold slG
      simp only [if_neg (show ¬ (2 = 0) by omega), if_neg (show ¬ (2 = 1) by omega), if_true]
      exact hT _ _
    · by_cases c3 : ∃ i, w = triP X D i 3
      · obtain ⟨i, rfl⟩ := c3
        rw [h.other3, h.t0 he, h.t3 he, Tri.up, hM _ _ (by omega), hM _ _ (by omega)]
        unfold slG
        simp only [if_neg (show ¬ (1 = 0) by omega), if_true, if_neg (show ¬ (2 + 1 = 0) by omega), if_neg (show ¬ (2 + 1 = 1) by omega), if_neg (show ¬ (2 + 1 = 2) by omega)]
        exact congrArg L (h.pmod (by omega) rfl)
      · have n0 : ∀ i, w ≠ triP X D i 0 := fun i e => c0 ⟨i, e⟩
        have n3 : ∀ i, w ≠ triP X D i 3 := fun i e => c3 ⟨i, e⟩
        have ho := h.ok.isPl_other hw
        have o0 : ∀ i, other X w ≠ triP X D i 0 := fun i e => n3 (i + 2) (by
          rw [← h.ok.other_other hw, e, h.other0])
        have o3 : ∀ i, other X w ≠ triP X D i 3 := fun i e => n0 (i + 1) (by
          rw [← h.ok.other_other hw, e, h.other3])
        rw [(key _ ho o0 o3).1, (key w hw n0 n3).2, hL w hw]
  · obtain ⟨_, q, hq, e⟩ := hv v hv'
    rcases h.any hq.2 with ⟨i, rfl | rfl | rfl | rfl⟩ | c
    · refine ⟨triP X D i 2, slideL_isPl.2 (h.pl _ _), ?_⟩
      rw [hM _ _ (by omega), ← e]; rfl
    · refine ⟨triP X D (i + 1) 0, slideL_isPl.2 (h.pl _ _), ?_⟩
      rw [hM _ _ (by omega), ← e]
      exact congrArg L (h.pmod (by omega) rfl)
    · refine ⟨triP X D (i + 1) 1, slideL_isPl.2 (h.pl _ _), ?_⟩
      rw [hM _ _ (by omega), ← e]
      exact congrArg L (h.pmod (by omega) rfl)
    · refine ⟨triP X D (i + 2) 0, slideL_isPl.2 (h.pl _ _), ?_⟩
      rw [hM _ _ (by omega), ← e, hE]
      exact congrArg L (h.pmod (by omega) rfl)
    · exact ⟨q, slideL_isPl.2 hq, (hMx q c).trans e⟩

def cyc (d e g : Dt) (i : Nat) : Dt := if i % 3 = 0 then d else if i % 3 = 1 then e else g
theorem slides_tri (hX : Ok X) {f : List Dt} (hf : f ∈ facesL X) (hs : slidesB X f = true) : ∃ D, Tri X D ∧ IsEs D (f.map (·.1)) ∧ ∀ d, d ∈ f ↔ ∃ i, d = D i := by
  unfold slidesB at hs
  simp only [Bool.and_eq_true, decide_eq_true_eq] at hs; obtain ⟨⟨⟨h1, h2⟩, _⟩, _⟩ := hs
  obtain ⟨d, e, g, rfl⟩ : ∃ d e g, f = [d, e, g] := by
    match f, h1 with
    | [d, e, g], _ => exact ⟨d, e, g, rfl⟩
  obtain ⟨a1, a2, a3, l1, l2, l3⟩ := hX.face_three hf
  have tl : ∀ {d : Dt}, Kn.isArc X d.1 → head X ((left X d).1, !(left X d).2) = ((head X d).1, ((head X d).2 + 3) % 4) := fun {d} hd => by
    have hq : isPl X ((head X d).1, ((head X d).2 + 3) % 4) := isPl_turn (hX.isPl_head hd) 3; have := hX.end_eq hq
    show endP X (!!(cm X ((head X d).1, ((head X d).2 + 3) % 4))) (arcN X ((head X d).1, ((head X d).2 + 3) % 4)) = _
    rw [Bool.not_not]; exact this
  have t1 := tl a1; have t2 := tl a2; have t3 := tl a3; rw [l1] at t1; rw [l2] at t2; rw [l3] at t3; simp only [List.map_cons, List.map_nil, t1, t2, t3, List.nodup_cons, List.mem_cons, List.not_mem_nil, or_false, not_or, List.nodup_nil, and_true, not_false_eq_true] at h2
  have three : ∀ i : Nat, i % 3 = 0 ∨ i % 3 = 1 ∨ i % 3 = 2 := fun i => by omega
  have c0 : ∀ {i}, i % 3 = 0 → cyc d e g i = d := fun h => by unfold cyc; rw [if_pos h]
  have c1 : ∀ {i}, i % 3 = 1 → cyc d e g i = e := fun h => by unfold cyc; rw [if_neg (by omega), if_pos h]
  have c2 : ∀ {i}, i % 3 = 2 → cyc d e g i = g := fun h => by unfold cyc; rw [if_neg (by omega), if_neg (by omega)]
  have mem : ∀ x, x ∈ [d, e, g] ↔ ∃ i, x = cyc d e g i := fun x => by
    simp only [List.mem_cons, List.not_mem_nil, or_false]
    constructor
    · rintro (rfl | rfl | rfl)
      · exact ⟨0, rfl⟩
      · exact ⟨1, rfl⟩
      · exact ⟨2, rfl⟩
    · rintro ⟨i, rfl⟩
      rcases three i with c | c | c
      · exact .inl (c0 c)
      · exact .inr (.inl (c1 c))
      · exact .inr (.inr (c2 c))
  refine ⟨cyc d e g, ⟨hX, fun i => ?_, fun i => ?_, fun i => ?_, fun i => ?_⟩, fun x => ?_, mem⟩
  · rcases three i with c | c | c
    · rw [c0 c]; exact a1
    · rw [c1 c]; exact a2
    · rw [c2 c]; exact a3
  · rcases three i with c | c | c
    · rw [c0 c, c1 (by omega), l1]
    · rw [c1 c, c2 (by omega), l2]
    · rw [c2 c, c0 (by omega), l3]
  · unfold cyc; rw [show (i + 3) % 3 = i % 3 by omega]
  · rcases three i with c | c | c
    · rw [c0 c, c1 (by omega)]; exact fun k => h2.2 k
    · rw [c1 c, c2 (by omega)]; exact fun k => h2.1.2 k.symm
    · rw [c2 c, c0 (by omega)]; exact h2.1.1
  · rw [List.mem_map]
    constructor
    · rintro ⟨y, hy, rfl⟩
      obtain ⟨i, rfl⟩ := (mem y).1 hy
      exact ⟨i, rfl⟩
    · rintro ⟨i, rfl⟩
      exact ⟨cyc d e g i, (mem _).2 ⟨i, rfl⟩, rfl⟩
end
end Go.Proofs.YtgjmjbgicfkojaaGreat.Kn

namespace Go.Proofs.YtgjmjbgicfkojaaGreat.Kn
section
variable {X : List Cr} {D : Nat → Dt} {es : List Nat}
theorem Tri.dinj (h : Tri X D) {i j : Nat} (e : D i = D j) : i % 3 = j % 3 := h.apart (by rw [e])
theorem Tri.perm (h : Tri X D) {f : List Dt} (hn : f.Nodup) (hm : ∀ d, d ∈ f ↔ ∃ i, d = D i) : f.Perm [D 0, D 1, D 2] := by
  have n01 : D 0 ≠ D 1 := fun e => by have := h.dinj e; omega
  have n02 : D 0 ≠ D 2 := fun e => by have := h.dinj e; omega
  have n12 : D 1 ≠ D 2 := fun e => by have := h.dinj e; omega
  refine (List.perm_ext_iff_of_nodup hn (by simp [n01, n02, n12])).2 fun d => ?_
  rw [hm]; simp only [List.mem_cons, List.not_mem_nil, or_false]
  constructor
  · rintro ⟨i, rfl⟩
    have c : i % 3 = 0 ∨ i % 3 = 1 ∨ i % 3 = 2 := by omega
    rcases c with c | c | c
    · exact .inl (h.mod (by omega))
    · exact .inr (.inl (h.mod (by omega)))
    · exact .inr (.inr (h.mod (by omega)))
  · rintro (rfl | rfl | rfl)
    · exact ⟨0, rfl⟩
    · exact ⟨1, rfl⟩
    · exact ⟨2, rfl⟩
theorem Tri.tail (h : Tri X D) (i : Nat) : head X ((D i).1, !(D i).2) = triP X D (i + 2) 3 := by
  have h0 := h.other0 i; rw [h.head0] at h0; rw [← h0]
  show endP X (!(!(D i).2)) (D i).1 = endP X (!cm X (endP X (!(D i).2) (D i).1)) (arcN X (endP X (!(D i).2) (D i).1))
  rw [h.ok.cm_end (h.arc i), h.ok.arc_end (h.arc i)]
theorem Tri.overs (h : Tri X D) (he : IsEs D es) (i : Nat) : overA (slideL X es) (D i).1 = overA X (D i).1 ∧ overB (slideL X es) (D i).1 = overB X (D i).1 := by
  have hb := h.back he
  have y := fun i k => h.triY he i k
  have m : ∀ i k, (triP X D i (k + 2)).2 % 2 = (triP X D i k).2 % 2 := fun i k => by unfold triP; simp only; omega
  have e1 := h.ends i; have e2 := hb.ends i; rw [y, y] at e2; have d1 : (turnD D i).1 = (D i).1 := rfl; rw [d1] at e2; have hin := h.arc i; have c1 := h.ok.cm_end (io := true) hin; have c2 := hb.ok.cm_end (io := true) (hb.arc i); have i1 : endP X true (D i).1 = inP X (D i).1 := rfl; have i2 : endP (slideL X es) true (turnD D i).1 = inP (slideL X es) (D i).1 := rfl; rw [i1] at c1; rw [i2] at c2
  unfold overA overB
  rcases e1 with ⟨a, b⟩ | ⟨a, b⟩ <;> rcases e2 with ⟨a', b'⟩ | ⟨a', b'⟩
  · rw [a] at c1
    rw [a', slideL_cm (h.pl _ _), h.cmx, c1] at c2
    cases c2
  · rw [a, b, a', b', m i 0, m (i + 2) 3]
    exact ⟨Bool.and_comm _ _, Bool.and_comm _ _⟩
  · rw [a, b, a', b', m i 0, m (i + 2) 3]
    exact ⟨Bool.and_comm _ _, Bool.and_comm _ _⟩
  · rw [a] at c1
    rw [a', slideL_cm (h.pl _ _), h.cmx, c1] at c2
    cases c2
theorem slide_back (hX : Ok X) {f : List Dt} (hf : f ∈ facesL X) (hs : slidesB X f = true) :
    Ok (slideL X (f.map (·.1))) ∧ (planarB X = true → planarB (slideL X (f.map (·.1))) = true) ∧
    ∃ f' ∈ facesL (slideL X (f.map (·.1))), slidesB (slideL X (f.map (·.1))) f' = true ∧ (∀ d ∈ f', ∃ e ∈ f, e.1 = d.1) ∧ slideL (slideL X (f.map (·.1))) (f'.map (·.1)) = X := by
  obtain ⟨D, h, he, hm⟩ := slides_tri hX hf hs; have hb := h.back he; obtain ⟨f', hf', hn', hm'⟩ := hb.ok.face_ring hb.arc hb.nx; have P := h.perm (hX.face_nodup hf) hm; have P' := hb.perm hn' hm'
  refine ⟨h.okY he, h.planar he, f', hf', ?_, fun d hd => ?_, ?_⟩
  · unfold slidesB at hs ⊢
    simp only [Bool.and_eq_true, decide_eq_true_eq] at hs ⊢; obtain ⟨⟨⟨_, _⟩, h3⟩, h4⟩ := hs
    refine ⟨⟨⟨P'.length_eq, ?_⟩, ?_⟩, ?_⟩
    · rw [(P'.map _).nodup_iff]
      have t := fun i => hb.tail i
      have c : ∀ i, (triP (slideL X (f.map (·.1))) (turnD D) i 3).1 = (head X (D i)).1 := fun i => by rw [h.triY he]; rfl
      simp only [List.map_cons, List.map_nil, t, c]
      have n : ∀ i j, i % 3 ≠ j % 3 → (head X (D i)).1 ≠ (head X (D j)).1 := fun i j k e => k (h.apart e)
      simp only [List.nodup_cons, List.mem_cons, List.not_mem_nil, or_false, not_or, List.nodup_nil, and_true, not_false_eq_true]
      exact ⟨⟨n _ _ (by omega), n _ _ (by omega)⟩, n _ _ (by omega)⟩
    · rw [P'.countP_eq]
      rw [P.countP_eq] at h3
      refine Eq.trans ?_ h3
      have := fun i => (h.overs he i).1
      simp only [List.countP_cons, List.countP_nil, turnD, this]
    · rw [P'.countP_eq]
      rw [P.countP_eq] at h4
      refine Eq.trans ?_ h4
      have := fun i => (h.overs he i).2
      simp only [List.countP_cons, List.countP_nil, turnD, this]
  · obtain ⟨i, rfl⟩ := (hm' d).1 hd
    exact ⟨D i, (hm _).2 ⟨i, rfl⟩, rfl⟩
  · refine h.again he fun e => ?_
    rw [List.mem_map]
    constructor
    · rintro ⟨d, hd, rfl⟩
      obtain ⟨i, rfl⟩ := (hm' d).1 hd
      exact ⟨i, rfl⟩
    · rintro ⟨i, rfl⟩
      exact ⟨_, (hm' _).2 ⟨i, rfl⟩, rfl⟩
end
end Go.Proofs.YtgjmjbgicfkojaaGreat.Kn

namespace Go.Proofs.YtgjmjbgicfkojaaGreat.Kn
def pushR (n a b c : Nat) : Nat := if c = n + 1 ∨ c = n + 2 then a else if c = n + 3 ∨ c = n + 4 then b else c
section
variable {X S : List Cr} {u v : Dt} {b0 b1 : Nat}
theorem arcN_of {S : List Cr} {p : Pl} {v : Nat} (e : at_ S p = ((v : Nat) : Int)) : arcN S p = v := by unfold arcN; rw [e]; rfl
theorem ray_acr {c b j : Nat} (hb : b < 4) : ((rayP c b j).1, ((rayP c b j).2 + 2) % 4) = rayP c b (j + 2) := Prod.ext rfl (by unfold rayP; simp only; omega)
theorem ray_mod {c b j : Nat} (hb : b < 4) : rayP c b (j + 4) = rayP c b j := Prod.ext rfl (by unfold rayP; simp only; omega)
theorem PushOf.back (h : PushOf X S u v b0 b1) : Back X S (both X.length (X.length + 1)) (pushR (nArcs X) u.1 v.1) := by
  have hS := h.ok; have hN := h.arcsEq; have hu2 := h.au.2; have hv2 := h.av.2; have l0 := h.lb0; have l1 := h.lb1
  obtain ⟨N, hNd⟩ : ∃ N, N = nArcs X := ⟨_, rfl⟩
  have ra : pushR N u.1 v.1 u.1 = u.1 := by unfold pushR; rw [if_neg (by omega), if_neg (by omega)]
  have rb : pushR N u.1 v.1 v.1 = v.1 := by unfold pushR; rw [if_neg (by omega), if_neg (by omega)]
  have r1 : pushR N u.1 v.1 (N + 1) = u.1 := by unfold pushR; rw [if_pos (by omega)]
  have r2 : pushR N u.1 v.1 (N + 2) = u.1 := by unfold pushR; rw [if_pos (by omega)]
  have r3 : pushR N u.1 v.1 (N + 3) = v.1 := by unfold pushR; rw [if_neg (by omega), if_pos (by omega)]
  have r4 : pushR N u.1 v.1 (N + 4) = v.1 := by unfold pushR; rw [if_neg (by omega), if_pos (by omega)]
  have n00 : arcN S (rayP X.length b0 0) = N + 3 := arcN_of (by rw [h.a00]; omega); have n01 : arcN S (rayP X.length b0 1) = N + 1 := arcN_of (by rw [h.a01]; omega)
  have n02 : arcN S (rayP X.length b0 2) = if v.2 then v.1 else N + 4 := arcN_of (by rw [h.a02]; split <;> omega)
  have n03 : arcN S (rayP X.length b0 3) = if u.2 then N + 2 else u.1 := arcN_of (by rw [h.a03]; split <;> omega)
  have n10 : arcN S (rayP (X.length + 1) b1 0) = if v.2 then N + 4 else v.1 := arcN_of (by rw [h.a10]; split <;> omega)
  have n11 : arcN S (rayP (X.length + 1) b1 1) = N + 1 := arcN_of (by rw [h.a11]; omega); have n12 : arcN S (rayP (X.length + 1) b1 2) = N + 3 := arcN_of (by rw [h.a12]; omega)
  have n13 : arcN S (rayP (X.length + 1) b1 3) = if u.2 then u.1 else N + 2 := arcN_of (by rw [h.a13]; split <;> omega)
  have e02 : pushR N u.1 v.1 (if v.2 then v.1 else N + 4) = v.1 := by split; exact rb; exact r4
  have e03 : pushR N u.1 v.1 (if u.2 then N + 2 else u.1) = u.1 := by split; exact r2; exact ra
  have e10 : pushR N u.1 v.1 (if v.2 then N + 4 else v.1) = v.1 := by split; exact r4; exact rb
  have e13 : pushR N u.1 v.1 (if u.2 then u.1 else N + 2) = u.1 := by split; exact ra; exact r2
  rw [← hNd]
  have g0 : both X.length (X.length + 1) X.length = true := by simp
  have g1 : both X.length (X.length + 1) (X.length + 1) = true := by simp
  have lt0 : X.length < S.length := by rw [h.len]; omega
  have lt1 : X.length + 1 < S.length := by rw [h.len]; omega
  refine ⟨h.okX, hS, by rw [h.len]; omega, fun c hc => ?_, fun p hp => ?_, fun c hc => ?_, fun b hb => ?_, fun b => ?_, fun c s h1 h2 h3 => ?_, fun b hb => ?_⟩
  · rw [h.len] at hc
    rw [Bool.eq_iff_iff]
    simp; omega
  · by_cases c : p = endP X true u.1
    · subst c
      rw [arcN_of (v := N + 2) (by rw [h.pu]; omega), r2, h.okX.arc_end h.au]
    · by_cases c' : p = endP X true v.1
      · subst c'
        rw [arcN_of (v := N + 4) (by rw [h.pv]; omega), r4, h.okX.arc_end h.av]
      · have e : arcN S p = arcN X p := by unfold arcN; rw [h.ax p hp c c']
        have := (h.okX.isArc hp).2; rw [e]
        unfold pushR; rw [if_neg (by omega), if_neg (by omega)]
  · have := h.cx (c, 1) ⟨hc, by show 1 < 4; omega⟩
    unfold cm Cr.comes over at this
    revert this
    cases (cr S c).p <;> cases (cr X c).p <;> simp
  · unfold pushR; rw [if_neg (by omega), if_neg (by omega)]
  · unfold pushR; split
    · omega
    · split <;> omega
  · rw [h.len] at h2
    have c : c = X.length ∨ c = X.length + 1 := by omega
    rcases c with rfl | rfl
    · rcases ray_any (p := (X.length, s)) l0 h3 rfl with e | e | e | e
      · have e' : ((X.length, (s + 2) % 4) : Pl) = rayP X.length b0 2 := by rw [← ray_acr l0, ← e]
        rw [e, e', n00, n02, e02, r3]
      · have e' : ((X.length, (s + 2) % 4) : Pl) = rayP X.length b0 3 := by rw [← ray_acr l0, ← e]
        rw [e, e', n01, n03, e03, r1]
      · have e' : ((X.length, (s + 2) % 4) : Pl) = rayP X.length b0 0 := by rw [← ray_mod l0 (j := 0), ← ray_acr l0 (j := 2), ← e]
        rw [e, e', n00, n02, e02, r3]
      · have e' : ((X.length, (s + 2) % 4) : Pl) = rayP X.length b0 1 := by rw [← ray_mod l0 (j := 1), ← ray_acr l0 (j := 3), ← e]
        rw [e, e', n01, n03, e03, r1]
    · rcases ray_any (p := (X.length + 1, s)) l1 h3 rfl with e | e | e | e
      · have e' : ((X.length + 1, (s + 2) % 4) : Pl) = rayP (X.length + 1) b1 2 := by rw [← ray_acr l1, ← e]
        rw [e, e', n10, n12, e10, r3]
      · have e' : ((X.length + 1, (s + 2) % 4) : Pl) = rayP (X.length + 1) b1 3 := by rw [← ray_acr l1, ← e]
        rw [e, e', n11, n13, e13, r1]
      · have e' : ((X.length + 1, (s + 2) % 4) : Pl) = rayP (X.length + 1) b1 0 := by rw [← ray_mod l1 (j := 0), ← ray_acr l1 (j := 2), ← e]
        rw [e, e', n10, n12, e10, r3]
      · have e' : ((X.length + 1, (s + 2) % 4) : Pl) = rayP (X.length + 1) b1 1 := by rw [← ray_mod l1 (j := 1), ← ray_acr l1 (j := 3), ← e]
        rw [e, e', n11, n13, e13, r1]
  · have hE := com_id_equiv (classE S (both X.length (X.length + 1)) S.length)
    have t0 := fun j => by
      have := tied_all (X := S) lt0 g0 (s := (j + 4 - b0) % 4) (Nat.mod_lt _ (by omega)); have e : ((X.length, ((j + 4 - b0) % 4 + 2) % 4) : Pl) = rayP X.length b0 (j + 2) := ray_acr l0; rw [e] at this
      exact this
    have t1 := fun j => by
      have := tied_all (X := S) lt1 g1 (s := (j + 4 - b1) % 4) (Nat.mod_lt _ (by omega)); have e : ((X.length + 1, ((j + 4 - b1) % 4 + 2) % 4) : Pl) = rayP (X.length + 1) b1 (j + 2) := ray_acr l1; rw [e] at this
      exact this
    have t00 := t0 0; have t01 := t0 1; have t10 := t1 0; have t11 := t1 1; have s00 : ((X.length, (0 + 4 - b0) % 4) : Pl) = rayP X.length b0 0 := rfl; have s01 : ((X.length, (1 + 4 - b0) % 4) : Pl) = rayP X.length b0 1 := rfl; have s10 : ((X.length + 1, (0 + 4 - b1) % 4) : Pl) = rayP (X.length + 1) b1 0 := rfl; have s11 : ((X.length + 1, (1 + 4 - b1) % 4) : Pl) = rayP (X.length + 1) b1 1 := rfl; rw [s00, n00, show 0 + 2 = 2 from rfl, n02] at t00; rw [s01, n01, show 1 + 2 = 3 from rfl, n03] at t01; rw [s10, n10, show 0 + 2 = 2 from rfl, n12] at t10
    rw [s11, n11, show 1 + 2 = 3 from rfl, n13] at t11
    have k : com (fun x => x) (classE S (both X.length (X.length + 1)) S.length) (N + 1) u.1 ∧ com (fun x => x) (classE S (both X.length (X.length + 1)) S.length) (N + 2) u.1 := by
      cases hu : u.2
      · rw [hu] at t01 t11
        exact ⟨t01, hE.trans (hE.symm t11) t01⟩
      · rw [hu] at t01 t11
        exact ⟨t11, hE.trans (hE.symm t01) t11⟩
    have k' : com (fun x => x) (classE S (both X.length (X.length + 1)) S.length) (N + 3) v.1 ∧ com (fun x => x) (classE S (both X.length (X.length + 1)) S.length) (N + 4) v.1 := by
      cases hv : v.2
      · rw [hv] at t00 t10
        exact ⟨hE.symm t10, hE.trans (hE.symm t00) (hE.symm t10)⟩
      · rw [hv] at t00 t10
        exact ⟨t00, hE.trans t10 t00⟩
    unfold pushR
    split
    · rename_i c
      rcases c with rfl | rfl
      · exact k.1
      · exact k.2
    · split
      · rename_i c
        rcases c with rfl | rfl
        · exact k'.1
        · exact k'.2
      · exact hE.refl b
theorem PushOf.take (h : PushOf X S u v b0 b1) : takeL S (both X.length (X.length + 1)) = X ∧ takeN S (both X.length (X.length + 1)) = 0 := by
  have hb := h.back
  refine ⟨hb.take, hb.none fun b hb => ?_⟩
  have hN := h.arcsEq; have := hb.2; have := h.au.2; have := h.av.2
  unfold pushR; split
  · omega
  · split <;> omega
theorem PushOf.bigon (h : PushOf X S u v b0 b1) (hb : b0 % 2 = b1 % 2) : ∃ f ∈ facesL S, ∃ d e, f = [d, e] ∧
    (((head S (d.1, !d.2)).1 = X.length ∧ (head S (e.1, !e.2)).1 = X.length + 1) ∨ ((head S (d.1, !d.2)).1 = X.length + 1 ∧ (head S (e.1, !e.2)).1 = X.length)) ∧
    ((overA S d.1 && overB S e.1) || (overB S d.1 && overA S e.1)) = true := by
  have hS := h.ok; have l0 := h.lb0; have l1 := h.lb1; have hN := h.arcsEq
  obtain ⟨d, hd⟩ : ∃ d : Dt, d = (nArcs X + 1, !u.2) := ⟨_, rfl⟩
  obtain ⟨e, he⟩ : ∃ e : Dt, e = (nArcs X + 3, !v.2) := ⟨_, rfl⟩
  have ad : Kn.isArc S d.1 := by rw [hd]; exact ⟨by simp only; omega, by simp only; omega⟩
  have ae : Kn.isArc S e.1 := by rw [he]; exact ⟨by simp only; omega, by simp only; omega⟩
  have n01 : arcN S (rayP X.length b0 1) = nArcs X + 1 := arcN_of (by rw [h.a01]; omega); have n12 : arcN S (rayP (X.length + 1) b1 2) = nArcs X + 3 := arcN_of (by rw [h.a12]; omega)
  have hd1 : head S d = rayP X.length b0 1 := by
    have := hS.end_eq (h.pl0 1); rw [h.c01, n01] at this; rw [hd]
    show endP S (!!u.2) (nArcs X + 1) = _
    rw [Bool.not_not]; exact this
  have he1 : head S e = rayP (X.length + 1) b1 2 := by
    have := hS.end_eq (h.pl1 2); rw [h.c12, n12] at this; rw [he]
    show endP S (!!v.2) (nArcs X + 3) = _
    rw [Bool.not_not]; exact this
  have td : head S (d.1, !d.2) = rayP (X.length + 1) b1 1 := by
    rw [← h.o01, ← hd1]
    show endP S (!!d.2) d.1 = endP S (!cm S (endP S (!d.2) d.1)) (arcN S (endP S (!d.2) d.1))
    rw [hS.cm_end ad, hS.arc_end ad]
  have te : head S (e.1, !e.2) = rayP X.length b0 0 := by
    rw [← h.o12, ← he1]
    show endP S (!!e.2) e.1 = endP S (!cm S (endP S (!e.2) e.1)) (arcN S (endP S (!e.2) e.1))
    rw [hS.cm_end ae, hS.arc_end ae]
  have down : ∀ {c b j}, b < 4 → ((rayP c b (j + 1)).1, ((rayP c b (j + 1)).2 + 3) % 4) = rayP c b j := fun {c b j} hb => Prod.ext rfl (by unfold rayP; simp only; omega)
  have ld : left S d = e := by
    refine hS.dart_inj (hS.isArc_left ad) ae ?_
    rw [← hS.fac_head ad, hd1, hS.fac_pk (h.pl0 1), down l0, h.o00, he1]
  have le : left S e = d := by
    refine hS.dart_inj (hS.isArc_left ae) ad ?_
    rw [← hS.fac_head ae, he1, hS.fac_pk (h.pl1 2), down l1, h.o11, hd1]
  obtain ⟨D, hD⟩ : ∃ D : Nat → Dt, ∀ i, D i = if i % 2 = 0 then d else e := ⟨_, fun _ => rfl⟩
  have c0 : ∀ {i}, i % 2 = 0 → D i = d := fun k => by rw [hD, if_pos k]
  have c1 : ∀ {i}, i % 2 = 1 → D i = e := fun k => by rw [hD, if_neg (by omega)]
  obtain ⟨f, hf, hn, hm⟩ := hS.face_ring (D := D) (fun i => by
      rcases Nat.mod_two_eq_zero_or_one i with c | c
      · rw [c0 c]; exact ad
      · rw [c1 c]; exact ae) (fun i => by
      rcases Nat.mod_two_eq_zero_or_one i with c | c
      · rw [c0 c, c1 (by omega)]; exact ld
      · rw [c1 c, c0 (by omega)]; exact le)
  have nde : d ≠ e := fun k => by
    have : d.1 = e.1 := by rw [k]
    rw [hd, he] at this
    simp only at this; omega
  have P : f.Perm [d, e] := (List.perm_ext_iff_of_nodup hn (by simp [nde])).2 fun x => by
    rw [hm]; simp only [List.mem_cons, List.not_mem_nil, or_false]
    constructor
    · rintro ⟨i, rfl⟩
      rcases Nat.mod_two_eq_zero_or_one i with c | c
      · exact .inl (c0 c)
      · exact .inr (c1 c)
    · rintro (rfl | rfl)
      · exact ⟨0, (c0 rfl).symm⟩
      · exact ⟨1, (c1 rfl).symm⟩
  have ends : ∀ {p q : Pl} {a : Nat}, isPl S p → arcN S p = a → other S p = q → (inP S a = p ∧ outP S a = q) ∨ (inP S a = q ∧ outP S a = p) := fun {p q a} hp ha ho => by
    have e1 := hS.end_eq hp; have e2 := hS.end_eq (hS.isPl_other hp); rw [hS.cm_other hp, hS.arc_other hp, ha, ho] at e2; rw [ha] at e1
    cases hc : cm S p with
    | true => rw [hc] at e1 e2; exact .inl ⟨e1, e2⟩
    | false => rw [hc] at e1 e2; exact .inr ⟨e2, e1⟩
  have ed := ends (h.pl0 1) n01 h.o01; have ee := ends (h.pl1 2) n12 h.o12
  have pd : (rayP X.length b0 1).2 % 2 = (rayP (X.length + 1) b1 1).2 % 2 := by unfold rayP; simp only; omega
  have pe : (rayP (X.length + 1) b1 2).2 % 2 = (rayP X.length b0 0).2 % 2 := by unfold rayP; simp only; omega
  have px : ((rayP X.length b0 1).2 % 2 = 1 ∧ (rayP X.length b0 0).2 % 2 = 0) ∨ ((rayP X.length b0 1).2 % 2 = 0 ∧ (rayP X.length b0 0).2 % 2 = 1) := by unfold rayP; simp only; omega
  have hde : d.1 = nArcs X + 1 := by rw [hd]
  have hee : e.1 = nArcs X + 3 := by rw [he]
  have ov : ((overA S d.1 && overB S e.1) || (overB S d.1 && overA S e.1)) = true := by
    rw [hde, hee]
    unfold overA overB
    rcases ed with ⟨a, b⟩ | ⟨a, b⟩ <;> rcases ee with ⟨a', b'⟩ | ⟨a', b'⟩ <;> rw [a, b, a', b', ← pd, pe] <;> rcases px with ⟨x, y⟩ | ⟨x, y⟩ <;> rw [x, y] <;> rfl
  have ov' : ((overA S e.1 && overB S d.1) || (overB S e.1 && overA S d.1)) = true := by
    rw [← ov, Bool.and_comm (overA S e.1), Bool.and_comm (overB S e.1), Bool.or_comm]
  have c1d : (head S (d.1, !d.2)).1 = X.length + 1 := by rw [td]; rfl
  have c1e : (head S (e.1, !e.2)).1 = X.length := by rw [te]; rfl
  have hl := P.length_eq
  match f, hl, hf, P with
  | [x, y], _, hf, P =>
    have hx : x = d ∨ x = e := by simpa using P.mem_iff.1 (show x ∈ [x, y] by simp)
    have hy : y = d ∨ y = e := by simpa using P.mem_iff.1 (show y ∈ [x, y] by simp)
    have hxy : x ≠ y := by
      have := P.nodup_iff.2 (by simp [nde])
      simpa using this
    rcases hx with rfl | rfl
    · rcases hy with rfl | rfl
      · exact absurd rfl hxy
      · exact ⟨_, hf, _, _, rfl, .inr ⟨c1d, c1e⟩, ov⟩
    · rcases hy with rfl | rfl
      · exact ⟨_, hf, _, _, rfl, .inl ⟨c1e, c1d⟩, ov'⟩
      · exact absurd rfl hxy
end
end Go.Proofs.YtgjmjbgicfkojaaGreat.Kn

namespace Go.Proofs.YtgjmjbgicfkojaaGreat.Kn

def setA (x : Cr) (s : Nat) (a : Int) : Cr := if s = 0 then { x with a := a } else if s = 1 then { x with b := a } else if s = 2 then { x with c := a } else { x with d := a }
def putA (Y : List Cr) (p : Pl) (a : Int) : List Cr := Y.set p.1 (setA (cr Y p.1) p.2 a)
theorem setA_p (x : Cr) (s : Nat) (a : Int) : (setA x s a).p = x.p := by unfold setA; (repeat' split) <;> rfl
theorem setA_arc (x : Cr) {s t : Nat} (hs : s < 4) (ht : t < 4) (a : Int) : (setA x s a).arc t = if t = s then a else x.arc t := by
  match s, hs, t, ht with
  | 0, _, 0, _ | 0, _, 1, _ | 0, _, 2, _ | 0, _, 3, _ => rfl
  | 1, _, 0, _ | 1, _, 1, _ | 1, _, 2, _ | 1, _, 3, _ => rfl
  | 2, _, 0, _ | 2, _, 1, _ | 2, _, 2, _ | 2, _, 3, _ => rfl
  | 3, _, 0, _ | 3, _, 1, _ | 3, _, 2, _ | 3, _, 3, _ => rfl
theorem putA_len (Y : List Cr) (p : Pl) (a : Int) : (putA Y p a).length = Y.length := by unfold putA; rw [List.length_set]
theorem cr_putA {Y : List Cr} {p : Pl} (hp : isPl Y p) (a : Int) (c : Nat) : cr (putA Y p a) c = if c = p.1 then setA (cr Y p.1) p.2 a else cr Y c := by
  have h0 := hp.1
  unfold putA
  unfold cr
  rw [List.getD_eq_getElem?_getD, List.getD_eq_getElem?_getD, List.getElem?_set]
  by_cases e : p.1 = c
  · subst e; simp [h0]
  · rw [if_neg e, if_neg (fun h => e h.symm), List.getD_eq_getElem?_getD]
theorem cm_putA {Y : List Cr} {p : Pl} (hp : isPl Y p) (a : Int) (q : Pl) : cm (putA Y p a) q = cm Y q := by
  unfold cm
  rw [cr_putA hp]
  by_cases e : q.1 = p.1
  · rw [if_pos e, e]; unfold Cr.comes; rw [setA_p]
  · rw [if_neg e]
theorem at_putA {Y : List Cr} {p q : Pl} (hp : isPl Y p) (hq : q.2 < 4) (a : Int) : at_ (putA Y p a) q = if q = p then a else at_ Y q := by
  unfold at_
  rw [cr_putA hp]
  by_cases e : q.1 = p.1
  · rw [if_pos e, setA_arc _ hp.2 hq]
    by_cases f : q.2 = p.2
    · rw [if_pos f, if_pos (Prod.ext e f)]
    · rw [if_neg f, if_neg (fun h => f (by rw [h])), e]
  · rw [if_neg e, if_neg (fun h => e (by rw [h]))]
theorem at_app {Z : List Cr} {x : Cr} {p : Pl} (h : p.1 < Z.length) : at_ (Z ++ [x]) p = at_ Z p := by unfold at_; rw [app_cr h]
theorem cm_app {Z : List Cr} {x : Cr} {p : Pl} (h : p.1 < Z.length) : cm (Z ++ [x]) p = cm Z p := by unfold cm; rw [app_cr h]
theorem at_last {Z : List Cr} {x : Cr} {n s : Nat} (h : Z.length = n) : at_ (Z ++ [x]) (n, s) = x.arc s := by unfold at_; subst h; rw [app_last]
theorem cm_last {Z : List Cr} {x : Cr} {n s : Nat} (h : Z.length = n) : cm (Z ++ [x]) (n, s) = x.comes s := by unfold cm; subst h; rw [app_last]

def mkC (b0 b1 a0 a1 : Int) (p : Bool) : Cr := if p then ⟨b0, a1, b1, a0, p⟩ else ⟨b0, a0, b1, a1, p⟩
def mkX (f0 f1 s0 s1 : Int) (sw p : Bool) : Cr := if sw then mkC s0 s1 f0 f1 p else mkC f0 f1 s0 s1 p
def curlA (X : List Cr) (a : Nat) (sw p : Bool) : List Cr := putA X (endP X true a) ((nArcs X : Int) + 2) ++ [mkX (a : Int) ((nArcs X : Int) + 1) ((nArcs X : Int) + 1) ((nArcs X : Int) + 2) sw p]
def curlP (X : List Cr) (sw p : Bool) : List Cr := X ++ [mkX ((nArcs X : Int) + 1) ((nArcs X : Int) + 2) ((nArcs X : Int) + 2) ((nArcs X : Int) + 1) sw p]
def cJa (sw p : Bool) : Nat := if sw then over p else 0
def cJn (sw p : Bool) : Nat := if sw then 0 else over p
theorem mkX_is (f0 f1 s0 s1 : Int) (sw p : Bool) : cJa sw p < 4 ∧ cJn sw p < 4 ∧ (cJa sw p + cJn sw p) % 2 = 1 ∧
    (mkX f0 f1 s0 s1 sw p).comes (cJa sw p) = true ∧ (mkX f0 f1 s0 s1 sw p).comes ((cJa sw p + 2) % 4) = false ∧ (mkX f0 f1 s0 s1 sw p).comes (cJn sw p) = true ∧ (mkX f0 f1 s0 s1 sw p).comes ((cJn sw p + 2) % 4) = false ∧
    (mkX f0 f1 s0 s1 sw p).arc (cJa sw p) = f0 ∧ (mkX f0 f1 s0 s1 sw p).arc ((cJa sw p + 2) % 4) = f1 ∧ (mkX f0 f1 s0 s1 sw p).arc (cJn sw p) = s0 ∧ (mkX f0 f1 s0 s1 sw p).arc ((cJn sw p + 2) % 4) = s1 := by
  cases sw <;> cases p <;> simp [mkX, mkC, cJa, cJn, over, Cr.comes, Cr.arc]
theorem curlA_of {X : List Cr} {a : Nat} (hX : Ok X) (ha : isArc X a) (sw p : Bool) : CurlOf X (curlA X a sw p) a (cJa sw p) (cJn sw p) := by
  have pP := hX.isPl_end (io := true) ha; have hl : (putA X (endP X true a) ((nArcs X : Int) + 2)).length = X.length := putA_len _ _ _; obtain ⟨i1, i2, i3, i4, i5, i6, i7, i8, i9, i10, i11⟩ := mkX_is (a : Int) ((nArcs X : Int) + 1) ((nArcs X : Int) + 1) ((nArcs X : Int) + 2) sw p
  unfold curlA
  refine ⟨by rw [List.length_append, hl]; rfl, fun q hq => ?_, fun q hq hne => ?_, ?_, i1, i2, i3, ?_, ?_, ?_, ?_, ?_, ?_, ?_, ?_⟩
  · rw [cm_app (by rw [hl]; exact hq.1), cm_putA pP]
  · rw [at_app (by rw [hl]; exact hq.1), at_putA pP hq.2, if_neg hne]
  · rw [at_app (by rw [hl]; exact pP.1), at_putA pP pP.2, if_pos rfl]
  · rw [cm_last hl, i4]
  · rw [cm_last hl, i5]
  · rw [cm_last hl, i6]
  · rw [cm_last hl, i7]
  · rw [at_last hl, i8]
  · rw [at_last hl, i9]
  · rw [at_last hl, i10]
  · rw [at_last hl, i11]
theorem curlP_of {X : List Cr} (sw p : Bool) : LoopOf X (curlP X sw p) (cJa sw p) (cJn sw p) := by
  obtain ⟨i1, i2, i3, i4, i5, i6, i7, i8, i9, i10, i11⟩ := mkX_is ((nArcs X : Int) + 1) ((nArcs X : Int) + 2) ((nArcs X : Int) + 2) ((nArcs X : Int) + 1) sw p
  unfold curlP
  refine ⟨by rw [List.length_append]; rfl, fun q hq => cm_app hq.1, fun q hq => at_app hq.1, i1, i2, i3, ?_, ?_, ?_, ?_, ?_, ?_, ?_, ?_⟩
  · rw [cm_last rfl, i4]
  · rw [cm_last rfl, i5]
  · rw [cm_last rfl, i6]
  · rw [cm_last rfl, i7]
  · rw [at_last rfl, i8]
  · rw [at_last rfl, i9]
  · rw [at_last rfl, i10]
  · rw [at_last rfl, i11]

def four (e n w s : Int) (j : Nat) : Int := if j = 0 then e else if j = 1 then n else if j = 2 then w else s
def rayC (r : Nat → Int) (b t : Nat) : Cr := ⟨r b, r ((b + 1) % 4), r ((b + 2) % 4), r ((b + 3) % 4), decide (t = (b + 3) % 4)⟩
theorem rayC_arc (r : Nat → Int) {b t j : Nat} (hb : b < 4) (hj : j < 4) : (rayC r b t).arc ((j + 4 - b) % 4) = r j := by
  match b, hb, j, hj with
  | 0, _, 0, _ | 0, _, 1, _ | 0, _, 2, _ | 0, _, 3, _ => rfl
  | 1, _, 0, _ | 1, _, 1, _ | 1, _, 2, _ | 1, _, 3, _ => rfl
  | 2, _, 0, _ | 2, _, 1, _ | 2, _, 2, _ | 2, _, 3, _ => rfl
  | 3, _, 0, _ | 3, _, 1, _ | 3, _, 2, _ | 3, _, 3, _ => rfl
theorem rayC_comes (r : Nat → Int) {b t j : Nat} (hb : b < 4) (ht : t < 4) (hj : j < 4) (hbt : (b + t) % 2 = 1) : (rayC r b t).comes ((j + 4 - b) % 4) = (decide (j = b) || decide (j = t)) := by
  unfold Cr.comes
  show (decide _ || decide (_ = over (decide (t = (b + 3) % 4)))) = _
  have : over (decide (t = (b + 3) % 4)) = if t = (b + 3) % 4 then 3 else 1 := by
    unfold over
    by_cases c : t = (b + 3) % 4 <;> simp [c]
  rw [this]
  congr 1
  · rw [decide_eq_decide]; omega
  · rw [decide_eq_decide]; split <;> omega
def pU0 (N : Nat) (u : Dt) : Int := if u.2 then (N : Int) + 2 else (u.1 : Int)
def pU2 (N : Nat) (u : Dt) : Int := if u.2 then (u.1 : Int) else (N : Int) + 2
def pV0 (N : Nat) (v : Dt) : Int := if v.2 then (N : Int) + 4 else (v.1 : Int)
def pV2 (N : Nat) (v : Dt) : Int := if v.2 then (v.1 : Int) else (N : Int) + 4
def pVi (v : Dt) : Nat := if v.2 then 2 else 0
def pUp (u : Dt) : Nat := if u.2 then 1 else 3
def pUq (u : Dt) : Nat := if u.2 then 3 else 1
def pushC (r : Nat → Int) (vi ui : Nat) (ov : Bool) : Cr := if ov then rayC r vi ui else rayC r ui vi
def pushZ (X : List Cr) (u v : Dt) : List Cr := putA (putA X (endP X true u.1) ((nArcs X : Int) + 2)) (endP X true v.1) ((nArcs X : Int) + 4)
def pushL (X : List Cr) (u v : Dt) (ov : Bool) : List Cr :=
  (pushZ X u v ++ [pushC (four ((nArcs X : Int) + 3) ((nArcs X : Int) + 1) (pV2 (nArcs X) v) (pU0 (nArcs X) u)) (pVi v) (pUp u) ov]) ++
    [pushC (four (pV0 (nArcs X) v) ((nArcs X : Int) + 1) ((nArcs X : Int) + 3) (pU2 (nArcs X) u)) (pVi v) (pUq u) ov]
theorem pushC_arc (r : Nat → Int) {vi ui j : Nat} (hv : vi < 4) (hu : ui < 4) (hj : j < 4) (ov : Bool) : (pushC r vi ui ov).arc ((j + 4 - if ov then vi else ui) % 4) = r j := by
  cases ov
  · exact rayC_arc r hu hj
  · exact rayC_arc r hv hj
theorem pushC_comes (r : Nat → Int) {vi ui j : Nat} (hv : vi < 4) (hu : ui < 4) (hj : j < 4) (hd : (vi + ui) % 2 = 1) (ov : Bool) : (pushC r vi ui ov).comes ((j + 4 - if ov then vi else ui) % 4) = (decide (j = vi) || decide (j = ui)) := by
  cases ov
  · have := rayC_comes r hu hv hj (by omega)
    rw [Bool.or_comm] at this
    exact this
  · exact rayC_comes r hv hu hj hd
theorem pushL_of {X : List Cr} {u v : Dt} (hX : Ok X) (hu : isArc X u.1) (hv : isArc X v.1) (hne : u.1 ≠ v.1) (ov : Bool) : PushOf X (pushL X u v ov) u v (if ov then pVi v else pUp u) (if ov then pVi v else pUq u) := by
  have pU := hX.isPl_end (io := true) hu; have pV := hX.isPl_end (io := true) hv; have pV' : isPl (putA X (endP X true u.1) ((nArcs X : Int) + 2)) (endP X true v.1) := ⟨by rw [putA_len]; exact pV.1, pV.2⟩
  have hZ : (pushZ X u v).length = X.length := by unfold pushZ; rw [putA_len, putA_len]
  have lv : pVi v < 4 := by unfold pVi; split <;> omega
  have lp : pUp u < 4 := by unfold pUp; split <;> omega
  have lq : pUq u < 4 := by unfold pUq; split <;> omega
  have d1 : (pVi v + pUp u) % 2 = 1 := by unfold pVi pUp; split <;> split <;> rfl
  have d2 : (pVi v + pUq u) % 2 = 1 := by unfold pVi pUq; split <;> split <;> rfl
  have nPQ : endP X true u.1 ≠ endP X true v.1 := fun e => hne (by rw [← hX.arc_end (io := true) hu, e, hX.arc_end hv])
  have cZ : ∀ q, cm (pushZ X u v) q = cm X q := fun q => by unfold pushZ; rw [cm_putA pV', cm_putA pU]
  have aZ : ∀ q : Pl, q.2 < 4 → at_ (pushZ X u v) q = if q = endP X true v.1 then (nArcs X : Int) + 4 else if q = endP X true u.1 then (nArcs X : Int) + 2 else at_ X q := fun q hq => by
    unfold pushZ; rw [at_putA pV' hq, at_putA pU hq]
  have cL : ∀ q, isPl X q → cm (pushL X u v ov) q = cm X q := fun q hq => by
    unfold pushL
    rw [cm_app (by rw [List.length_append, hZ]; exact Nat.lt_succ_of_lt hq.1), cm_app (by rw [hZ]; exact hq.1), cZ]
  have aL : ∀ q, isPl X q → at_ (pushL X u v ov) q = at_ (pushZ X u v) q := fun q hq => by
    unfold pushL
    rw [at_app (by rw [List.length_append, hZ]; exact Nat.lt_succ_of_lt hq.1), at_app (by rw [hZ]; exact hq.1)]
  have a0 : ∀ s, at_ (pushL X u v ov) (X.length, s) = (pushC (four ((nArcs X : Int) + 3) ((nArcs X : Int) + 1) (pV2 (nArcs X) v) (pU0 (nArcs X) u)) (pVi v) (pUp u) ov).arc s := fun s => by
    unfold pushL
    rw [at_app (by rw [List.length_append, hZ]; exact Nat.lt_succ_self _), at_last hZ]
  have c0 : ∀ s, cm (pushL X u v ov) (X.length, s) = (pushC (four ((nArcs X : Int) + 3) ((nArcs X : Int) + 1) (pV2 (nArcs X) v) (pU0 (nArcs X) u)) (pVi v) (pUp u) ov).comes s := fun s => by
    unfold pushL
    rw [cm_app (by rw [List.length_append, hZ]; exact Nat.lt_succ_self _), cm_last hZ]
  have a1 : ∀ s, at_ (pushL X u v ov) (X.length + 1, s) = (pushC (four (pV0 (nArcs X) v) ((nArcs X : Int) + 1) ((nArcs X : Int) + 3) (pU2 (nArcs X) u)) (pVi v) (pUq u) ov).arc s := fun s => by
    unfold pushL
    rw [at_last (by rw [List.length_append, hZ]; rfl)]
  have c1 : ∀ s, cm (pushL X u v ov) (X.length + 1, s) = (pushC (four (pV0 (nArcs X) v) ((nArcs X : Int) + 1) ((nArcs X : Int) + 3) (pU2 (nArcs X) u)) (pVi v) (pUq u) ov).comes s := fun s => by
    unfold pushL
    rw [cm_last (by rw [List.length_append, hZ]; rfl)]
  refine ⟨hX, hu, hv, hne, by unfold pushL; rw [List.length_append, List.length_append, hZ]; rfl, cL, fun q hq n1 n2 => ?_, ?_, ?_, by split <;> assumption, by split <;> assumption, ?_, ?_, ?_, ?_, ?_, ?_, ?_, ?_, ?_, ?_, ?_, ?_, ?_, ?_, ?_, ?_⟩
  · rw [aL q hq, aZ q hq.2, if_neg n2, if_neg n1]
  · rw [aL _ pU, aZ _ pU.2, if_neg nPQ, if_pos rfl]
  · rw [aL _ pV, aZ _ pV.2, if_pos rfl]
  · rw [rayP, a0, pushC_arc _ lv lp (by omega)]; rfl
  · rw [rayP, a0, pushC_arc _ lv lp (by omega)]; rfl
  · rw [rayP, a0, pushC_arc _ lv lp (by omega)]; rfl
  · rw [rayP, a0, pushC_arc _ lv lp (by omega)]; rfl
  · rw [rayP, a1, pushC_arc _ lv lq (by omega)]; rfl
  · rw [rayP, a1, pushC_arc _ lv lq (by omega)]; rfl
  · rw [rayP, a1, pushC_arc _ lv lq (by omega)]; rfl
  · rw [rayP, a1, pushC_arc _ lv lq (by omega)]; rfl
  · rw [rayP, c0, pushC_comes _ lv lp (by omega) d1]; unfold pVi pUp; cases u.2 <;> cases v.2 <;> rfl
  · rw [rayP, c0, pushC_comes _ lv lp (by omega) d1]; unfold pVi pUp; cases u.2 <;> cases v.2 <;> rfl
  · rw [rayP, c0, pushC_comes _ lv lp (by omega) d1]; unfold pVi pUp; cases u.2 <;> cases v.2 <;> rfl
  · rw [rayP, c0, pushC_comes _ lv lp (by omega) d1]; unfold pVi pUp; cases u.2 <;> cases v.2 <;> rfl
  · rw [rayP, c1, pushC_comes _ lv lq (by omega) d2]; unfold pVi pUq; cases u.2 <;> cases v.2 <;> rfl
  · rw [rayP, c1, pushC_comes _ lv lq (by omega) d2]; unfold pVi pUq; cases u.2 <;> cases v.2 <;> rfl
  · rw [rayP, c1, pushC_comes _ lv lq (by omega) d2]; unfold pVi pUq; cases u.2 <;> cases v.2 <;> rfl
  · rw [rayP, c1, pushC_comes _ lv lq (by omega) d2]; unfold pVi pUq; cases u.2 <;> cases v.2 <;> rfl
def arcB (X : List Cr) (a : Int) : Bool := decide (1 ≤ a) && decide (a ≤ (nArcs X : Int))
theorem push_par (u v : Dt) (ov : Bool) : (if ov then pVi v else pUp u) % 2 = (if ov then pVi v else pUq u) % 2 := by
  unfold pUp pUq
  cases ov <;> cases u.2 <;> simp
end Go.Proofs.YtgjmjbgicfkojaaGreat.Kn
