/- Plain mathematics of diagrams, joined. -/
import Derived.Test.YtlicglicfijelaaMAllb
/- A crossing smoothed: what is left is a diagram, planar if it was, and its letters are those that are left: plain mathematics. -/
namespace Go.Proofs.Ytlicglicfijelaa.Kn

section
variable {N : Nat} {σ : Nat → Nat}
theorem Flat.smooth (h : Pm N σ) {es : Prs} (hg : Good N es) (hd : Dis es) (hf : Flat N σ es) {A B C D : Nat} (hnd : [A, B, C, D].Nodup)
    (sA : σ A = C) (sC : σ C = D) (sD : σ D = B) (sB : σ B = A) (hm : ∀ z ∈ [A, B, C, D], mate es z ≠ z) {m1 : Nat → Nat}
    (hm1 : ∀ z, m1 z = if mate es z = A then mate es B else if mate es z = B then mate es A else mate es z) :
    ∃ es', Good N es' ∧ Dis es' ∧ Pm N (fun x => if x ∈ [A, B, C, D] then x else σ x) ∧ Flat N (fun x => if x ∈ [A, B, C, D] then x else σ x) es' ∧
      ∀ z, mate es' z = if z ∈ [A, B, C, D] then z else if m1 z = C then m1 D else if m1 z = D then m1 C else m1 z := by
  have hnd' := hnd
  simp only [List.nodup_cons, List.mem_cons, List.not_mem_nil, or_false, not_or, List.nodup_nil, and_true, not_false_eq_true] at hnd'
  obtain ⟨⟨nAB, nAC, nAD⟩, ⟨nBC, nBD⟩, nCD⟩ := hnd'
  have nBA : ¬ B = A := fun e => nAB e.symm
  have nCA : ¬ C = A := fun e => nAC e.symm
  have nDA : ¬ D = A := fun e => nAD e.symm
  have nCB : ¬ C = B := fun e => nBC e.symm
  have nDB : ¬ D = B := fun e => nBD e.symm
  have nDC : ¬ D = C := fun e => nCD e.symm
  have mA := hm A (by simp)
  have mB := hm B (by simp)
  have mC := hm C (by simp)
  have mD := hm D (by simp)
  have inN : ∀ z, mate es z ≠ z → z < N := fun z hz => by
    obtain ⟨e, he, k⟩ := (inPrs_iff hg hd z).2 hz
    obtain ⟨a, b, _⟩ := hg e he
    rcases k with rfl | rfl
    · exact a
    · exact b
  have hB := inN B mB
  have hC := inN C mC
  have oBC : Orb σ B C := (Orb.one σ B).trans (by rw [sB]; have := Orb.one σ A; rwa [sA] at this)
  have f1 := hf.split h hg hB hC nBC oBC
  have h1 : Pm N (fun x => swp B C (σ x)) := h.swp hB hC
  obtain ⟨es1, g1, d1, f2, e1⟩ := f1.suppress h1 hg hd (u := A) (v := B) nAB
    (by show swp B C (σ A) = B; rw [sA, swp_b]) (by show swp B C (σ B) = A; rw [sB, swp_ne nAB nAC])
    ((inPrs_iff hg hd A).2 mA) ((inPrs_iff hg hd B).2 mB)
  have hA := inN A mA
  have hD := inN D mD
  have h2 : Pm N (fun x => swp A B (swp B C (σ x))) := h1.swp hA hB
  have e1' : ∀ z, z ≠ A → z ≠ B → mate es1 z = m1 z := fun z k1 k2 => by
    rw [e1, if_neg (fun k => k.elim k1 k2), hm1]
  have inv : ∀ x, mate es (mate es x) = x := fun x => mate_mate hd x
  have m1C : m1 C ≠ C := by
    rw [hm1]
    split
    · next k =>
      intro k'
      have := congrArg (mate es) k'
      rw [inv, k] at this
      exact nBA this
    · split
      · next k =>
        intro k'
        have := congrArg (mate es) k'
        rw [inv, k] at this
        exact nAB this
      · exact mC
  have m1D : m1 D ≠ D := by
    rw [hm1]
    split
    · next k =>
      intro k'
      have := congrArg (mate es) k'
      rw [inv, k] at this
      exact nBA this
    · split
      · next k =>
        intro k'
        have := congrArg (mate es) k'
        rw [inv, k] at this
        exact nAB this
      · exact mD
  obtain ⟨es2, g2, d2, f3, e2⟩ := f2.suppress h2 g1 d1 (u := C) (v := D) nCD
    (by show swp A B (swp B C (σ C)) = D; rw [sC, swp_ne nDB nDC, swp_ne nDA nDB])
    (by show swp A B (swp B C (σ D)) = C; rw [sD, swp_a, swp_ne nCA nCB])
    ((inPrs_iff g1 d1 C).2 (by rw [e1' C nCA nCB]; exact m1C)) ((inPrs_iff g1 d1 D).2 (by rw [e1' D nDA nDB]; exact m1D))
  have e : (fun x => if x ∈ [A, B, C, D] then x else σ x) = fun x => swp C D (swp A B (swp B C (σ x))) := funext fun x => by
    by_cases c1 : x = A
    · subst c1; simp [sA, swp, *]
    · by_cases c2 : x = B
      · subst c2; simp [sB, swp, *]
      · by_cases c3 : x = C
        · subst c3; simp [sC, swp, *]
        · by_cases c4 : x = D
          · subst c4; simp [sD, swp, *]
          · have w1 : ¬ σ x = A := fun k => c2 (h.inj _ _ (k.trans sB.symm))
            have w2 : ¬ σ x = B := fun k => c4 (h.inj _ _ (k.trans sD.symm))
            have w3 : ¬ σ x = C := fun k => c1 (h.inj _ _ (k.trans sA.symm))
            have w4 : ¬ σ x = D := fun k => c3 (h.inj _ _ (k.trans sC.symm))
            simp [swp, w1, w2, w3, w4, c1, c2, c3, c4]
  refine ⟨es2, g2, d2, by rw [e]; exact h2.swp hC hD, by rw [e]; exact f3, fun z => ?_⟩
  rw [e2]
  have aA : mate es1 A = A := by rw [e1, if_pos (.inl rfl)]
  have aB : mate es1 B = B := by rw [e1, if_pos (.inr rfl)]
  by_cases c1 : z = A
  · subst c1
    rw [if_neg (by simp [nAC, nAD]), aA, if_neg nAC, if_neg nAD, if_pos (by simp)]
  · by_cases c2 : z = B
    · subst c2
      rw [if_neg (by simp [nBC, nBD]), aB, if_neg nBC, if_neg nBD, if_pos (by simp)]
    · rw [e1' z c1 c2, e1' D nDA nDB, e1' C nCA nCB]
      simp [c1, c2]
end
section
variable {X : List Cr}
/- as the program does it -/
def smF (X : List Cr) (k : Nat) : Nat → Nat :=
  joinF (joinF (fun a => a) (arcN X (k, 0)) (arcN X (k, (over (cr X k).p + 2) % 4))) (arcN X (k, over (cr X k).p)) (arcN X (k, 2))
def smE (X : List Cr) (k : Nat) : Prs := [(arcN X (k, over (cr X k).p), arcN X (k, 2)), (arcN X (k, 0), arcN X (k, (over (cr X k).p + 2) % 4))]
def smL (X : List Cr) (k : Nat) : List Cr := withL X (smF X k) (only k)
def smN (X : List Cr) (k : Nat) : Nat := ringN X (smF X k) (only k)
def smO (X : List Cr) (k s : Nat) (p : Pl) : Pl :=
  let o1 := fun p => if other X p = (k, s) then other X (k, (s + 1) % 4) else if other X p = (k, (s + 1) % 4) then other X (k, s) else other X p
  if o1 p = (k, (s + 3) % 4) then o1 (k, (s + 2) % 4) else if o1 p = (k, (s + 2) % 4) then o1 (k, (s + 3) % 4) else o1 p
def smS (X : List Cr) (k : Nat) : Nat := if (cr X k).p then 0 else 3
theorem nS_only (hX : Ok X) {k x : Nat} (hx : x < 2 * X.length) (hk : x / 2 = k) : (hX.ar 0).nS (only k) x = nxA X (mt x) := by
  show (if only k (x / 2) = true ∧ x < 2 * X.length then nxA X (mt x) else nxA X x) = _
  rw [if_pos ⟨by simp [hk], hx⟩]
theorem Ok.smooth_ties (hX : Ok X) {k : Nat} (hk : k < X.length) : Ties X hX (smF X k) (only k) (smE X k) (smO X k (smS X k)) (only k) := by
  have ar : ∀ s, s < 4 → 1 ≤ arcN X (k, s) := fun s hs => (hX.isArc (p := (k, s)) ⟨hk, hs⟩).1
  have R : Rep (smF X k) (com (fun x => x) (smE X k)) := (Rep.id.join (ar 0 (by omega)) (ar _ (Nat.mod_lt _ (by omega)))).join (ar _ (over_lt _)) (ar 2 (by omega))
  have e0 : ain X (2 * k) = arcN X (k, 0) := by unfold ain; rw [ip_even (by omega), show 2 * k / 2 = k by omega]
  have e1 : ain X (2 * k + 1) = arcN X (k, over (cr X k).p) := by unfold ain; rw [ip_odd (by omega), show (2 * k + 1) / 2 = k by omega]
  have m0 : mt (2 * k) = 2 * k + 1 := by unfold mt; rw [if_pos (by omega)]
  have m1 : mt (2 * k + 1) = 2 * k := by unfold mt; rw [if_neg (by omega)]; omega
  have o0 : outA X (2 * k) = (k, 2) := by unfold outA; rw [ip_even (by omega), show 2 * k / 2 = k by omega]; rfl
  have o1 : outA X (2 * k + 1) = (k, (over (cr X k).p + 2) % 4) := by unfold outA; rw [ip_odd (by omega), show (2 * k + 1) / 2 = k by omega]
  have n0 : ain X ((hX.ar 0).nS (only k) (2 * k)) = arcN X (k, (over (cr X k).p + 2) % 4) := by
    rw [nS_only hX (by omega) (by omega), m0, hX.ain_nx (by omega), o1]
  have n1 : ain X ((hX.ar 0).nS (only k) (2 * k + 1)) = arcN X (k, 2) := by
    rw [nS_only hX (by omega) (by omega), m1, hX.ain_nx (by omega), o0]
  refine ⟨R, ?_, fun e he => ?_, fun x hx hg => ?_, fun c _ hg => hg⟩
  · have hs4 : smS X k < 4 := by unfold smS; split <;> omega
    obtain ⟨s, hs⟩ : ∃ s, s = smS X k := ⟨_, rfl⟩
    rw [← hs] at hs4 ⊢
    have m4 : ∀ j, (s + j) % 4 < 4 := fun j => Nat.mod_lt _ (by omega)
    have pA : isPl X (k, s) := ⟨hk, hs4⟩
    have pB : isPl X (k, (s + 1) % 4) := ⟨hk, m4 1⟩
    have pC : isPl X (k, (s + 3) % 4) := ⟨hk, m4 3⟩
    have pD : isPl X (k, (s + 2) % 4) := ⟨hk, m4 2⟩
    obtain ⟨nAB, nAD, nAC, nBD, nBC, nDC⟩ := four_ne (c := k) hs4
    have cms : ∀ t, t < 4 → cm X (k, t) = (decide (t = 0) || decide (t = over (cr X k).p)) := fun _ _ => rfl
    have cAB : cm X (k, (s + 1) % 4) = !cm X (k, s) := by
      rw [cms _ (m4 1), cms _ hs4, hs]
      unfold smS over
      cases (cr X k).p <;> rfl
    have cCD : cm X (k, (s + 2) % 4) = !cm X (k, (s + 3) % 4) := by
      rw [cms _ (m4 2), cms _ (m4 3), hs]
      unfold smS over
      cases (cr X k).p <;> rfl
    have T1 := hX.tied.step (com_id_equiv []) pA pB cAB
    have T2 := T1.step (mrg_equiv (com_id_equiv []) _ _) (u := (k, (s + 3) % 4)) (v := (k, (s + 2) % 4)) ⟨pC, fun e => nAC e.symm, fun e => nBC e.symm⟩ ⟨pD, fun e => nAD e.symm, fun e => nBD e.symm⟩ cCD
    refine T2.congr (fun p => ?_) (fun x y => ?_) fun _ _ => rfl
    · constructor
      · rintro ⟨h1, h2⟩
        have h2 : ¬ p.1 = k := by simpa using h2
        rw [of_four hs4 h1.2] at h2
        simp only [not_or] at h2
        exact ⟨⟨h1, h2.1, h2.2.1⟩, h2.2.2.2, h2.2.2.1⟩
      · rintro ⟨⟨h1, h2, h3⟩, h4, h5⟩
        refine ⟨h1, ?_⟩
        have : ¬ p.1 = k := by rw [of_four hs4 h1.2]; simp only [not_or]; exact ⟨h2, h3, h5, h4⟩
        simpa using this
    · show com (fun x => x) (smE X k) x y ↔ com (fun x => x) [(arcN X (k, (s + 3) % 4), arcN X (k, (s + 2) % 4)), (arcN X (k, s), arcN X (k, (s + 1) % 4))] x y
      have hp := over_cases (cr X k).p
      have symm : ∀ {es : Prs} {a b : Nat}, com (fun x => x) es a b → com (fun x => x) es b a := fun {es} => (com_id_equiv es).symm
      constructor
      · refine com_id_mono fun e he => ?_
        unfold smE at he
        rw [List.mem_cons, List.mem_singleton] at he
        rcases hp with ⟨hp, ho⟩ | ⟨hp, ho⟩
        · have hs0 : s = 0 := by rw [hs]; unfold smS; rw [hp]; rfl
          rw [ho] at he
          subst hs0
          rcases he with rfl | rfl
          · exact com_id_pair (e := (arcN X (k, 3), arcN X (k, 2))) (by simp)
          · exact com_id_pair (e := (arcN X (k, 0), arcN X (k, 1))) (by simp)
        · have hs0 : s = 3 := by rw [hs]; unfold smS; rw [hp]; rfl
          rw [ho] at he
          subst hs0
          rcases he with rfl | rfl
          · exact symm (com_id_pair (e := (arcN X (k, 2), arcN X (k, 1))) (by simp))
          · exact symm (com_id_pair (e := (arcN X (k, 3), arcN X (k, 0))) (by simp))
      · refine com_id_mono fun e he => ?_
        rw [List.mem_cons, List.mem_singleton] at he
        rcases hp with ⟨hp, ho⟩ | ⟨hp, ho⟩
        · have hs0 : s = 0 := by rw [hs]; unfold smS; rw [hp]; rfl
          have hE : smE X k = [(arcN X (k, 3), arcN X (k, 2)), (arcN X (k, 0), arcN X (k, 1))] := by unfold smE; rw [ho]
          rw [hE]
          subst hs0
          rcases he with rfl | rfl
          · exact com_id_pair (e := (arcN X (k, 3), arcN X (k, 2))) (by simp)
          · exact com_id_pair (e := (arcN X (k, 0), arcN X (k, 1))) (by simp)
        · have hs0 : s = 3 := by rw [hs]; unfold smS; rw [hp]; rfl
          have hE : smE X k = [(arcN X (k, 1), arcN X (k, 2)), (arcN X (k, 0), arcN X (k, 3))] := by unfold smE; rw [ho]
          rw [hE]
          subst hs0
          rcases he with rfl | rfl
          · exact symm (com_id_pair (e := (arcN X (k, 1), arcN X (k, 2))) (by simp))
          · exact symm (com_id_pair (e := (arcN X (k, 0), arcN X (k, 3))) (by simp))
  · unfold smE at he
    rw [List.mem_cons, List.mem_singleton] at he
    rcases he with rfl | rfl
    · exact ⟨2 * k + 1, by omega, by simp; omega, .inl (by rw [e1, n1])⟩
    · exact ⟨2 * k, by omega, by simp, .inl (by rw [e0, n0])⟩
  · have hg : x / 2 = k := by simpa using hg
    have : x = 2 * k ∨ x = 2 * k + 1 := by omega
    rcases this with rfl | rfl
    · rw [e0, n0]; exact com_id_pair (e := (arcN X (k, 0), arcN X (k, (over (cr X k).p + 2) % 4))) (by unfold smE; simp)
    · rw [e1, n1]; exact com_id_pair (e := (arcN X (k, over (cr X k).p), arcN X (k, 2))) (by unfold smE; simp)
theorem Ok.smooth_ok (hX : Ok X) {k : Nat} (hk : k < X.length) : Ok (smL X k) := (hX.smooth_ties hk).ok
theorem Ok.smooth_planar (hX : Ok X) {k : Nat} (hk : k < X.length) (hp : planarB X = true) : planarB (smL X k) = true := by
  have cut := (hX.smooth_ties hk).cut
  have hs4 : smS X k < 4 := by unfold smS; split <;> omega
  obtain ⟨s, hs⟩ : ∃ s, s = smS X k := ⟨_, rfl⟩
  rw [← hs] at hs4 cut
  have m4 : ∀ j, (s + j) % 4 < 4 := fun j => Nat.mod_lt _ (by omega)
  have pA : isPl X (k, s) := ⟨hk, hs4⟩
  have pB : isPl X (k, (s + 1) % 4) := ⟨hk, m4 1⟩
  have pC : isPl X (k, (s + 3) % 4) := ⟨hk, m4 3⟩
  have pD : isPl X (k, (s + 2) % 4) := ⟨hk, m4 2⟩
  obtain ⟨sA, sC, sD, sB⟩ := sig4 (n := X.length) hk hs4
  have fn := four_nodup (c := k) hs4
  have nd : [pk (k, s), pk (k, (s + 1) % 4), pk (k, (s + 3) % 4), pk (k, (s + 2) % 4)].Nodup := by
    simp only [List.nodup_cons, List.mem_cons, List.not_mem_nil, or_false, not_or, List.nodup_nil, and_true, not_false_eq_true] at fn ⊢
    obtain ⟨⟨a, b, c⟩, ⟨d, e⟩, f⟩ := fn
    exact ⟨⟨a, c, b⟩, ⟨e, d⟩, fun q => f q.symm⟩
  have mem4 : ∀ z, z ∈ [pk (k, s), pk (k, (s + 1) % 4), pk (k, (s + 3) % 4), pk (k, (s + 2) % 4)] ↔ z / 4 = k := fun z => by
    rw [← mem_four hs4]
    simp only [List.mem_cons, List.not_mem_nil, or_false]
    constructor
    · rintro (a | a | a | a)
      · exact .inl a
      · exact .inr (.inl a)
      · exact .inr (.inr (.inr a))
      · exact .inr (.inr (.inl a))
    · rintro (a | a | a | a)
      · exact .inl a
      · exact .inr (.inl a)
      · exact .inr (.inr (.inr a))
      · exact .inr (.inr (.inl a))
  obtain ⟨m1, hm1⟩ : ∃ m1 : Nat → Nat, ∀ z, m1 z = if mate (ens X) z = pk (k, s) then mate (ens X) (pk (k, (s + 1) % 4)) else if mate (ens X) z = pk (k, (s + 1) % 4) then mate (ens X) (pk (k, s)) else mate (ens X) z := ⟨_, fun _ => rfl⟩
  obtain ⟨es, g, d, pm, f, m⟩ := (hX.flat hp).smooth (sig_pm _) hX.ens_good hX.ens_dis nd sA sC sD sB (fun z hz => by
    simp only [List.mem_cons, List.not_mem_nil, or_false] at hz
    rcases hz with rfl | rfl | rfl | rfl
    · exact hX.mate_free pA
    · exact hX.mate_free pB
    · exact hX.mate_free pC
    · exact hX.mate_free pD) hm1
  have liv : ∀ z, (∀ p, (isPl X p ∧ only k p.1 = false) → pk p ≠ z) → 4 * X.length ≤ z ∨ z / 4 = k := fun z hz => by
    by_cases c : 4 * X.length ≤ z
    · exact .inl c
    · refine .inr (Classical.byContradiction fun c' => hz (pl z) ⟨isPl_pl (by omega), by simpa [pl] using c'⟩ ?_)
      unfold pk pl; simp only; omega
  have out : ∀ p, (isPl X p ∧ only k p.1 = false) → pk p ∉ [pk (k, s), pk (k, (s + 1) % 4), pk (k, (s + 3) % 4), pk (k, (s + 2) % 4)] := fun p hp => by
    rw [mem4, pk_div hp.1.2]
    simpa using hp.2
  obtain ⟨o1, ho1⟩ : ∃ o1 : Pl → Pl, ∀ p, o1 p = if other X p = (k, s) then other X (k, (s + 1) % 4) else if other X p = (k, (s + 1) % 4) then other X (k, s) else other X p := ⟨_, fun _ => rfl⟩
  have o1P : ∀ p, isPl X p → isPl X (o1 p) := fun p hp => by
    rw [ho1]
    split
    · exact hX.isPl_other pB
    · split
      · exact hX.isPl_other pA
      · exact hX.isPl_other hp
  have iq : ∀ {p q : Pl}, isPl X p → isPl X q → (pk p = pk q ↔ p = q) := fun hp hq => ⟨pk_inj hp.2 hq.2, fun e => by rw [e]⟩
  have m1o : ∀ p, isPl X p → m1 (pk p) = pk (o1 p) := fun p hp => by
    rw [hm1, ho1, hX.mate_pk hp, hX.mate_pk pA, hX.mate_pk pB]
    have i := hX.isPl_other hp
    by_cases c1 : other X p = (k, s)
    · rw [if_pos ((iq i pA).2 c1), if_pos c1]
    · rw [if_neg (fun e => c1 ((iq i pA).1 e)), if_neg c1]
      by_cases c2 : other X p = (k, (s + 1) % 4)
      · rw [if_pos ((iq i pB).2 c2), if_pos c2]
      · rw [if_neg (fun e => c2 ((iq i pB).1 e)), if_neg c2]
  refine cut.planar pm g d f (fun p hp => ?_) (fun z hz => ?_) (fun p hp => ?_) fun z hz => ?_
  · rw [m, if_neg (out p hp), m1o p hp.1, m1o _ pD, m1o _ pC]
    have e : smO X k s p = if o1 p = (k, (s + 3) % 4) then o1 (k, (s + 2) % 4) else if o1 p = (k, (s + 2) % 4) then o1 (k, (s + 3) % 4) else o1 p := by
      rw [ho1, ho1, ho1]; rfl
    rw [e]
    have i := o1P p hp.1
    by_cases c1 : o1 p = (k, (s + 3) % 4)
    · rw [if_pos ((iq i pC).2 c1), if_pos c1]
    · rw [if_neg (fun e => c1 ((iq i pC).1 e)), if_neg c1]
      by_cases c2 : o1 p = (k, (s + 2) % 4)
      · rw [if_pos ((iq i pD).2 c2), if_pos c2]
      · rw [if_neg (fun e => c2 ((iq i pD).1 e)), if_neg c2]
  · rw [m]
    rcases liv z hz with c | c
    · have hz' := hX.mate_big c
      have b1 := pk_lt pA
      have b2 := pk_lt pB
      have b3 := pk_lt pC
      have b4 := pk_lt pD
      have e1 : m1 z = z := by
        rw [hm1, hz', if_neg (show ¬ z = pk (k, s) by omega), if_neg (show ¬ z = pk (k, (s + 1) % 4) by omega)]
      rw [e1, if_neg (show ¬ z = pk (k, (s + 3) % 4) by omega), if_neg (show ¬ z = pk (k, (s + 2) % 4) by omega)]
      split <;> rfl
    · rw [if_pos ((mem4 z).2 c)]
  · simp only [if_neg (out p hp)]
  · rcases liv z hz with c | c
    · simp only [(sig_pm X.length).out z c]
      split <;> rfl
    · simp only [if_pos ((mem4 z).2 c)]
end
end Go.Proofs.Ytlicglicfijelaa.Kn

/- Crossings turned, strands turned round: plain mathematics. -/
namespace Go.Proofs.Ytlicglicfijelaa.Kn

/- a place of a turned crossing, as a place of what was -/
def trn (k : Nat → Nat) (p : Pl) : Pl := (p.1, (p.2 + k p.1) % 4)
def utrn (k : Nat → Nat) (p : Pl) : Pl := (p.1, (p.2 + 3 * k p.1) % 4)
theorem trn_utrn (k : Nat → Nat) {p : Pl} (h : p.2 < 4) : trn k (utrn k p) = p := by
  unfold trn utrn; refine Prod.ext rfl ?_; simp only; omega
theorem utrn_trn (k : Nat → Nat) {p : Pl} (h : p.2 < 4) : utrn k (trn k p) = p := by
  unfold trn utrn; refine Prod.ext rfl ?_; simp only; omega
/- Y is X with its crossings turned, the arcs of e the other way round -/
structure Tur (X Y : List Cr) (k : Nat → Nat) (e : Nat → Bool) : Prop where
  len : Y.length = X.length
  at_ : ∀ p, isPl X p → at_ Y p = at_ X (trn k p)
  cm : ∀ p, isPl X p → cm Y p = xor (cm X (trn k p)) (e (arcN X (trn k p)))
section
variable {X Y : List Cr} {k : Nat → Nat} {e : Nat → Bool}
theorem Tur.isPl (h : Tur X Y k e) {p : Pl} : isPl Y p ↔ isPl X p := by unfold Kn.isPl; rw [h.len]
theorem isPl_trn {p : Pl} (hp : isPl X p) : isPl X (trn k p) := ⟨hp.1, Nat.mod_lt _ (by omega)⟩
theorem isPl_utrn {p : Pl} (hp : isPl X p) : isPl X (utrn k p) := ⟨hp.1, Nat.mod_lt _ (by omega)⟩
theorem Tur.arcs (h : Tur X Y k e) : nArcs Y = nArcs X := by unfold nArcs; rw [h.len]
theorem Tur.isArc (h : Tur X Y k e) {a : Nat} : isArc Y a ↔ isArc X a := by unfold Kn.isArc; rw [h.arcs]
theorem Tur.ok (h : Tur X Y k e) (hX : Ok X) : Ok Y := by
  refine ok_mk (fun p hp => ?_) (fun io a ha => ?_) fun p q hp hq hc ha => ?_
  · have hp := h.isPl.1 hp
    rw [h.at_ p hp, h.arcs]
    exact hX.rng _ (isPl_trn hp)
  · have ha := h.isArc.1 ha
    have hq := hX.isPl_end (io := xor io (e a)) ha
    have hu := isPl_utrn (k := k) hq
    have et := trn_utrn k hq.2
    refine ⟨utrn k (endP X (xor io (e a)) a), h.isPl.2 hu, ?_, ?_⟩
    · rw [h.cm _ hu, et, hX.cm_end ha, hX.arc_end ha]
      cases io <;> cases e a <;> rfl
    · rw [h.at_ _ hu, et, hX.at_end ha]
  · have hp := h.isPl.1 hp
    have hq := h.isPl.1 hq
    rw [h.at_ p hp, h.at_ q hq] at ha
    have hn : Kn.arcN X (trn k p) = Kn.arcN X (trn k q) := by unfold Kn.arcN; rw [ha]
    rw [h.cm p hp, h.cm q hq, hn] at hc
    have := hX.uniq _ _ (isPl_trn hp) (isPl_trn hq) (by revert hc; cases Kn.cm X (trn k p) <;> cases Kn.cm X (trn k q) <;> cases e (Kn.arcN X (trn k q)) <;> simp) ha
    have := congrArg (utrn k) this
    rwa [utrn_trn k hp.2, utrn_trn k hq.2] at this
theorem Tur.arcN (h : Tur X Y k e) {p : Pl} (hp : Kn.isPl X p) : arcN Y p = arcN X (trn k p) := by unfold Kn.arcN; rw [h.at_ p hp]
theorem Tur.other (h : Tur X Y k e) (hX : Ok X) {p : Pl} (hp : Kn.isPl X p) : trn k (Kn.other Y p) = Kn.other X (trn k p) := by
  have hY := h.ok hX
  have hp' := h.isPl.2 hp
  have ho := h.isPl.1 (hY.isPl_other hp')
  have ht := isPl_trn (k := k) hp
  have a1 : Kn.arcN X (trn k (Kn.other Y p)) = Kn.arcN X (trn k p) := by rw [← h.arcN ho, ← h.arcN hp, hY.arc_other hp']
  refine hX.uniq _ _ (isPl_trn ho) (hX.isPl_other ht) ?_ ?_
  · rw [hX.cm_other ht]
    have c1 := hY.cm_other hp'
    rw [h.cm _ ho, h.cm _ hp, a1] at c1
    revert c1
    cases Kn.cm X (trn k (Kn.other Y p)) <;> cases Kn.cm X (trn k p) <;> cases e (Kn.arcN X (trn k p)) <;> simp
  · rw [← hX.arcN_eq (isPl_trn ho), ← hX.arcN_eq (hX.isPl_other ht), a1, hX.arc_other ht]
/- the faces and the pieces lie as they lay -/
theorem Tur.nbs (h : Tur X Y k e) (hX : Ok X) {c d : Nat} (hc : c < X.length) : d ∈ nbs Y c ↔ d ∈ nbs X c := by
  rw [mem_nbs, mem_nbs]
  have key : ∀ s, s < 4 → (Kn.other Y (c, s)).1 = (Kn.other X (trn k (c, s))).1 := fun s hs => by
    rw [← h.other hX ⟨hc, hs⟩]; rfl
  constructor
  · rintro ⟨s, hs, rfl⟩
    exact ⟨(s + k c) % 4, by omega, key s hs⟩
  · rintro ⟨s, hs, rfl⟩
    have := key ((s + 3 * k c) % 4) (by omega)
    refine ⟨(s + 3 * k c) % 4, by omega, ?_⟩
    rw [this]
    have : trn k (c, (s + 3 * k c) % 4) = (c, s) := trn_utrn k (p := (c, s)) hs
    rw [this]
theorem Tur.con (h : Tur X Y k e) (hX : Ok X) {c d : Nat} : Con Y c d ↔ Con X c d := by
  have key : nbc Y = nbc Y := rfl
  have hm : ∀ c d, d ∈ nbc Y c ↔ d ∈ nbc X c := fun c d => by
    unfold nbc
    rw [h.len]
    by_cases hc : c < X.length
    · rw [if_pos hc, if_pos hc]; exact h.nbs hX hc
    · rw [if_neg hc, if_neg hc]
  constructor
  · intro x
    induction x with
    | refl => exact .refl _
    | step _ he ih => exact .step ih ((hm _ _).1 he)
  · intro x
    induction x with
    | refl => exact .refl _
    | step _ he ih => exact .step ih ((hm _ _).2 he)
theorem Tur.pieces (h : Tur X Y k e) (hX : Ok X) : (piecesL Y).length = (piecesL X).length := by
  have hY := h.ok hX
  rw [← hX.cl_pieces, ← hY.cl_pieces, h.len]
  refine cl_congr_lt fun x y hx _ => ?_
  rw [hX.pie_con hx, hY.pie_con (by rw [h.len]; exact hx), h.con hX]
theorem Tur.faces (h : Tur X Y k e) (hX : Ok X) : (facesL Y).length = (facesL X).length := by
  have hY := h.ok hX
  obtain ⟨g, hg⟩ : ∃ g : Nat → Nat, ∀ x, g x = if x < 4 * X.length then pk (trn k (pl x)) else x := ⟨_, fun _ => rfl⟩
  have hgp : ∀ p, Kn.isPl X p → g (pk p) = pk (trn k p) := fun p hp => by rw [hg, if_pos (pk_lt hp), pl_pk hp.2]
  have hpl : ∀ x, x < 4 * X.length → x = pk (pl x) ∧ Kn.isPl X (pl x) := fun x hx => ⟨by unfold pk pl; simp only; omega, isPl_pl hx⟩
  have hgl : ∀ x, x < 4 * X.length → g x < 4 * X.length := fun x hx => by
    obtain ⟨e1, hp⟩ := hpl x hx
    rw [e1, hgp _ hp]; exact pk_lt (isPl_trn hp)
  have hgi : ∀ x y, x < 4 * X.length → y < 4 * X.length → g x = g y → x = y := fun x y hx hy e => by
    obtain ⟨e1, hp⟩ := hpl x hx
    obtain ⟨e2, hq⟩ := hpl y hy
    rw [e1, e2, hgp _ hp, hgp _ hq] at e
    have := pk_inj (isPl_trn hp).2 (isPl_trn hq).2 e
    have := congrArg (utrn k) this
    rw [utrn_trn k hp.2, utrn_trn k hq.2] at this
    rw [e1, e2, this]
  have hf : ∀ x, x < 4 * X.length → g (fac Y x) = fac X (g x) := fun x hx => by
    obtain ⟨e1, hp⟩ := hpl x hx
    have hp' := h.isPl.2 hp
    have ht := isPl_turn hp 3
    rw [e1, hY.fac_pk hp', hgp _ (h.isPl.1 (hY.isPl_other (isPl_turn hp' 3))), h.other hX ht, hgp _ hp, hX.fac_pk (isPl_trn hp)]
    congr 2
    unfold trn
    simp only
    refine Prod.ext rfl ?_
    simp only; omega
  have hfl : ∀ x, x < 4 * X.length → fac Y x < 4 * X.length := fun x hx => by have := hY.fac_pm.lt x (by rw [h.len]; exact hx); rwa [h.len] at this
  have key : ∀ x y, x < 4 * X.length → (Orb (fac Y) x y ↔ y < 4 * X.length ∧ Orb (fac X) (g x) (g y)) := fun x y hx => by
    have hit : ∀ n, it (fac Y) n x < 4 * X.length ∧ g (it (fac Y) n x) = it (fac X) n (g x) := fun n => by
      induction n with
      | zero => exact ⟨hx, rfl⟩
      | succ n ih => exact ⟨hfl _ ih.1, by rw [it, hf _ ih.1, ih.2]; rfl⟩
    constructor
    · rintro ⟨n, rfl⟩
      exact ⟨(hit n).1, n, (hit n).2.symm⟩
    · rintro ⟨hy, n, e⟩
      refine ⟨n, hgi _ _ (hit n).1 hy ?_⟩
      rw [(hit n).2, e]
  rw [← hX.cl_faces]
  have hflat : ((facesL Y).map (List.map fun d => pk (head Y d))).flatten.Perm (List.range (4 * X.length)) := by have := hY.faces_flat; rwa [h.len] at this
  have hlt : ∀ r ∈ (facesL Y).map (List.map fun d => pk (head Y d)), ∀ x ∈ r, x < 4 * X.length := fun r hr x hx => List.mem_range.1 (hflat.mem_iff.1 (List.mem_flatten.2 ⟨r, hr, hx⟩))
  have hgs : ∀ y, y < 4 * X.length → ∃ x, x < 4 * X.length ∧ g x = y := fun y hy => by
    have hp := inj_perm (l := List.range (4 * X.length)) List.nodup_range (fun x hx => List.mem_range.2 (hgl x (List.mem_range.1 hx))) fun x hx y hy e => hgi x y (List.mem_range.1 hx) (List.mem_range.1 hy) e
    obtain ⟨x, hx, e⟩ := List.mem_map.1 (hp.mem_iff.2 (List.mem_range.2 hy))
    exact ⟨x, List.mem_range.1 hx, e⟩
  have := cl_lists hX.fac_pm.equiv (N := 4 * X.length) (ll := ((facesL Y).map (List.map fun d => pk (head Y d))).map (List.map g)) (by
      rw [← List.map_flatten]
      exact (hflat.map g).trans (inj_perm List.nodup_range (fun x hx => List.mem_range.2 (hgl x (List.mem_range.1 hx))) fun x hx y hy e => hgi x y (List.mem_range.1 hx) (List.mem_range.1 hy) e))
    (fun l hl => by
      obtain ⟨r, hr, rfl⟩ := List.mem_map.1 hl
      obtain ⟨f, hf, rfl⟩ := List.mem_map.1 hr
      have := faces_ne Y f hf
      simpa using this)
    (fun l hl x hx y => by
      obtain ⟨r, hr, rfl⟩ := List.mem_map.1 hl
      obtain ⟨z, hz, rfl⟩ := List.mem_map.1 hx
      have hzl := hlt r hr z hz
      have hcl := hY.faces_is r hr z hz
      constructor
      · intro hy
        obtain ⟨u, hu, rfl⟩ := List.mem_map.1 hy
        exact ((key z u hzl).1 ((hcl u).1 hu)).2
      · intro ho
        have hyl : y < 4 * X.length := Orb.lt hX.fac_pm (hgl z hzl) ho
        obtain ⟨u, hu, rfl⟩ := hgs y hyl
        exact List.mem_map.2 ⟨u, (hcl u).2 ((key z u hzl).2 ⟨hu, ho⟩), rfl⟩)
  rw [this, List.length_map, List.length_map]
theorem Tur.planar (h : Tur X Y k e) (hX : Ok X) : planarB Y = planarB X := by
  rw [Bool.eq_iff_iff, hX.planar_iff, (h.ok hX).planar_iff, h.faces hX, h.pieces hX, h.len]
end

/- the crossing turned; the mirror image -/
def turnC (x : Cr) (k : Nat) : Cr := ⟨x.arc (k % 4), x.arc ((1 + k) % 4), x.arc ((2 + k) % 4), x.arc ((3 + k) % 4), x.p⟩
def mirC (x : Cr) : Cr := { turnC x (over x.p) with p := !x.p }
def mirL (X : List Cr) : List Cr := X.map mirC
theorem cr_map {f : Cr → Cr} {X : List Cr} {c : Nat} (hc : c < X.length) : cr (X.map f) c = f (cr X c) := by
  unfold cr
  rw [List.getD_eq_getElem?_getD, List.getD_eq_getElem?_getD, List.getElem?_map, List.getElem?_eq_getElem hc]; rfl
theorem turnC_arc (x : Cr) (k : Nat) {s : Nat} (hs : s < 4) : (turnC x k).arc s = x.arc ((s + k) % 4) := by
  match s, hs with
  | 0, _ => show x.arc (k % 4) = _; rw [Nat.zero_add]
  | 1, _ => rfl
  | 2, _ => rfl
  | 3, _ => rfl
theorem mirC_arc (x : Cr) {s : Nat} (hs : s < 4) : (mirC x).arc s = x.arc ((s + over x.p) % 4) := turnC_arc x _ hs
theorem mirC_comes (x : Cr) {s : Nat} (hs : s < 4) : (mirC x).comes s = x.comes ((s + over x.p) % 4) := by
  show (decide (s = 0) || decide (s = over (!x.p))) = (decide ((s + over x.p) % 4 = 0) || decide ((s + over x.p) % 4 = over x.p))
  unfold over
  cases x.p <;> match s, hs with
    | 0, _ => rfl
    | 1, _ => rfl
    | 2, _ => rfl
    | 3, _ => rfl
theorem mir_tur (X : List Cr) : Tur X (mirL X) (fun c => over (cr X c).p) fun _ => false := by
  refine ⟨by simp [mirL], fun p hp => ?_, fun p hp => ?_⟩
  · show (cr (mirL X) p.1).arc p.2 = _
    unfold mirL
    rw [cr_map hp.1, mirC_arc _ hp.2]; rfl
  · show (cr (mirL X) p.1).comes p.2 = _
    unfold mirL
    rw [cr_map hp.1, mirC_comes _ hp.2, Bool.xor_false]; rfl
section
variable {X : List Cr} {e : Nat → Bool}
end
end Go.Proofs.Ytlicglicfijelaa.Kn

/- THE VALUE OF A DIAGRAM: what a changed and a smoothed crossing do to it: plain mathematics. -/
namespace Go.Proofs.Ytlicglicfijelaa.Kn

abbrev noS : St := fun _ => false
abbrev tru : St := fun _ => true
theorem nS_no (A : Ar) (x : Nat) : A.nS noS x = A.nx x := by unfold Ar.nS; rw [if_neg (by simp)]
theorem id_emb (Z : Ar) : Emb Z Z (fun l => l) (fun l => l) noS :=
  ⟨fun _ h => h, fun _ _ => rfl, fun _ _ => rfl, fun _ _ => rfl, fun _ h _ => ⟨h, rfl⟩, fun _ _ => rfl⟩
theorem id_red (Z : Ar) (T : St) : Red Z Z (fun l => l) noS T T := ⟨fun _ _ => rfl, fun _ _ => .one rfl⟩
theorem tops_nil (A : Ar) (dead S hD : St) (h : ∀ y, y < 2 * A.n → dead y = true → S (y / 2) = true) : Tops A dead S hD [] :=
  ⟨fun _ hy => (by cases hy), List.nodup_nil, fun _ _ e => (by cases e), fun y hy hd hS => (by rw [h y hy hd] at hS; cases hS)⟩
section
variable {W : Type} {K : CA W} {A Z : Ar} {e r : Nat → Nat} {dead : Nat → Bool} {S T hD : St} {t : List Nat}
theorem lf_id (hD h : St) (d : Nat) : lf noS (fun l => l) hD h d = h d := by
  unfold lf
  rw [if_neg (by simp)]
  show ov h (2 * d + 1) = h d
  unfold ov
  rw [if_pos (by omega), show (2 * d + 1) / 2 = d by omega]
theorem sim_one (hA : LK A) (hZ : LK Z) (EA : Emb A Z e r dead) (RA : Red A Z e dead S T) (TA : Tops A dead S hD t) (hk : A.k S = Z.k T) (h : St) : V K A S (lf dead r hD h) = V K Z T h := by
  have := sim (K := K) (tB := []) (hDB := noS) hA hZ EA (id_emb Z) _ T rfl S T RA (id_red Z T) TA (tops_nil Z noS T noS fun y _ hd => by cases hd) (fun _ _ _ _ _ k => by cases k) hk h
  rw [this]
  exact V_congr K Z fun d _ _ => lf_id _ _ d
/- nothing left out: as many words -/
theorem k_same (EA : Emb A Z e r noS) (RA : Red A Z e noS S T) (hL : A.L = Z.L) : A.k S = Z.k T := by
  obtain ⟨ws, hW⟩ := A.ws_ex S
  have hZ := hW.fil EA RA
  rw [Ws.k_eq _ hW, Ws.k_eq _ hZ, hL]
  congr 1
  have : ∀ vs : List (List Nat), (∀ v ∈ vs, v ≠ []) → vs.length = (fil noS r vs).length := by
    intro vs
    induction vs with
    | nil => intro _; rfl
    | cons v vs ih =>
      intro h
      rw [fil_cons, if_neg, List.length_cons, List.length_cons, ih fun w hw => h w (by simp [hw])]
      unfold fw
      rw [List.map_eq_nil_iff, List.filter_eq_nil_iff]
      intro k
      obtain ⟨a, ha⟩ := List.exists_mem_of_ne_nil v (h v (by simp))
      have := k a ha
      simp at this
  exact this ws fun v hv => cy_ne (hW.cyc v hv)
end
section
variable {W : Type} (K : CA W) {X : List Cr}
/- the value of a diagram -/
noncomputable def hv (h : Ok X) (L : Nat) : W := V K (h.ar L) noS tru
variable {K}
/- a crossing smoothed -/
theorem Ok.hv_smooth (h : Ok X) (hp : planarB X = true) {k : Nat} (hk : k < X.length) (L : Nat) : V K (h.ar L) (only k) tru = hv K (h.smooth_ok hk) (L + smN X k) := by
  have hT := h.smooth_ties hk
  have hE := eK_emb (f := smF X k) (gone := only k) h hT.ok L (L + smN X k)
  have hR := hT.red L (L + smN X k)
  have := sim_one (K := K) (hD := tru) (h.linked hp L) (hT.ok.linked (h.smooth_planar hk hp) (L + smN X k)) hE hR (tops_nil _ _ _ _ fun y _ hd => hd) (hT.rings L) tru
  refine Eq.trans ?_ this
  refine V_congr K _ fun d _ _ => ?_
  unfold lf
  split
  · rfl
  · unfold ov
    rw [if_pos (by unfold rK; omega)]
/- a crossing changed -/
def chgL (X : List Cr) (k : Nat) : List Cr := X.set k (mirC (cr X k))
theorem cr_set {k c : Nat} {y : Cr} (hk : k < X.length) : cr (X.set k y) c = if c = k then y else cr X c := by
  unfold cr
  rw [List.getD_eq_getElem?_getD, List.getElem?_set]
  by_cases e : c = k
  · subst e
    rw [if_pos rfl, if_pos rfl, if_pos hk]; rfl
  · rw [if_neg fun q => e q.symm, if_neg e, List.getD_eq_getElem?_getD]
def chgT (X : List Cr) (k c : Nat) : Nat := if c = k then over (cr X k).p else 0
theorem chg_tur {k : Nat} (hk : k < X.length) : Tur X (chgL X k) (chgT X k) fun _ => false := by
  refine ⟨by simp [chgL], fun p hp => ?_, fun p hp => ?_⟩
  · unfold at_ chgL
    rw [cr_set hk]
    unfold trn chgT
    by_cases e : p.1 = k
    · rw [if_pos e, if_pos e, mirC_arc _ hp.2, e]
    · rw [if_neg e, if_neg e]
      have := hp.2
      rw [show (p.2 + 0) % 4 = p.2 by omega]
  · unfold cm chgL
    rw [cr_set hk]
    unfold trn chgT
    by_cases e : p.1 = k
    · rw [if_pos e, if_pos e, mirC_comes _ hp.2, e, Bool.xor_false]
    · rw [if_neg e, if_neg e]
      have := hp.2
      rw [show (p.2 + 0) % 4 = p.2 by omega, Bool.xor_false]
theorem Ok.chg_ok (h : Ok X) {k : Nat} (hk : k < X.length) : Ok (chgL X k) := (chg_tur hk).ok h
theorem Ok.chg_planar (h : Ok X) {k : Nat} (hk : k < X.length) : planarB (chgL X k) = planarB X := (chg_tur hk).planar h
def chgE (k l : Nat) : Nat := if l / 2 = k then mt l else l
theorem chgE_two (k l : Nat) : chgE k (chgE k l) = l := by
  unfold chgE
  by_cases e : l / 2 = k
  · rw [if_pos e, if_pos (by rw [mt_div]; exact e), mt_mt]
  · rw [if_neg e, if_neg e]
theorem chgE_div (k l : Nat) : chgE k l / 2 = l / 2 := by unfold chgE; split; exact mt_div l; rfl
theorem ip_chg {k l : Nat} (hk : k < X.length) : ip X (chgE k l) = trn (chgT X k) (ip (chgL X k) l) := by
  have hc : cr (chgL X k) (l / 2) = if l / 2 = k then mirC (cr X k) else cr X (l / 2) := cr_set hk
  unfold trn chgT
  rw [ip_one]
  by_cases e : l / 2 = k
  · rw [if_pos e]
    unfold chgE
    rw [if_pos e]
    rcases Nat.mod_two_eq_zero_or_one l with m | m
    · rw [ip_even m, ip_odd (by rw [mt_mod]; omega), mt_div, e]
      simp only
      congr 1
      have := over_lt (cr X k).p
      omega
    · rw [ip_odd m, ip_even (by rw [mt_mod]; omega), mt_div, hc, if_pos e, e]
      show (k, 0) = (k, (over (!(cr X k).p) + over (cr X k).p) % 4)
      unfold over
      cases (cr X k).p <;> rfl
  · rw [if_neg e]
    unfold chgE
    rw [if_neg e]
    rcases Nat.mod_two_eq_zero_or_one l with m | m
    · rw [ip_even m, ip_even m]; rfl
    · rw [ip_odd m, ip_odd m, hc, if_neg e]
      simp only
      have := over_lt (cr X (l / 2)).p
      rw [show (over (cr X (l / 2)).p + 0) % 4 = over (cr X (l / 2)).p by omega]
theorem Ok.chg_emb (h : Ok X) {k : Nat} (hk : k < X.length) (L : Nat) : Emb (h.ar L) ((h.chg_ok hk).ar L) (chgE k) (chgE k) noS := by
  have len : (chgL X k).length = X.length := by simp [chgL]
  have lt : ∀ l, l < 2 * X.length → chgE k l < 2 * X.length := fun l hl => by have := chgE_div k l; omega
  refine ⟨fun l hl => ?_, fun l _ => ?_, fun l _ => chgE_two k l, fun _ _ => rfl, fun x hx _ => ?_, fun l hl => ?_⟩
  · have hl : l < 2 * (chgL X k).length := hl
    exact lt l (by omega)
  · unfold chgE
    rw [mt_div]
    split <;> rfl
  · refine ⟨?_, chgE_two k x⟩
    show chgE k x < 2 * (chgL X k).length
    rw [len]; exact lt x hx
  · have hc : cr (chgL X k) (l / 2) = if l / 2 = k then mirC (cr X k) else cr X (l / 2) := cr_set hk
    show (if chgE k l % 2 = 1 then (cr X (chgE k l / 2)).p else !(cr X (chgE k l / 2)).p) = if l % 2 = 1 then (cr (chgL X k) (l / 2)).p else !(cr (chgL X k) (l / 2)).p
    rw [chgE_div, hc]
    unfold chgE
    by_cases e : l / 2 = k
    · rw [if_pos e, if_pos e, mt_mod, e]
      show _ = if l % 2 = 1 then (!(cr X k).p) else !(!(cr X k).p)
      rcases Nat.mod_two_eq_zero_or_one l with m | m
      · rw [m]; simp
      · rw [m]; simp
    · rw [if_neg e, if_neg e]
theorem Ok.chg_red (h : Ok X) {k : Nat} (hk : k < X.length) (L : Nat) : Red (h.ar L) ((h.chg_ok hk).ar L) (chgE k) noS noS noS := by
  have len : (chgL X k).length = X.length := by simp [chgL]
  have hY := h.chg_ok hk
  have hT := chg_tur (X := X) hk
  refine ⟨fun _ _ => rfl, fun l hl => ?_⟩
  have hl : l < 2 * (chgL X k).length := hl
  have hl' : l < 2 * X.length := by omega
  have he : chgE k l < 2 * X.length := by have := chgE_div k l; omega
  rw [nS_no]
  have e : (h.ar L).nS noS (chgE k l) = chgE k (nxA (chgL X k) l) := by
    rw [nS_no]
    refine ip_inj (Y := X) ?_
    show ip X (nxA X (chgE k l)) = _
    rw [h.ip_nx he, ip_chg hk, hY.ip_nx hl]
    have ho := outA_pl (X := chgL X k) hl
    rw [hT.other h (hT.isPl.1 ho)]
    congr 1
    unfold outA
    rw [ip_chg hk]
    unfold trn
    refine Prod.ext rfl ?_
    simp only; omega
  show Via noS ((h.ar L).nS noS) (chgE k l) (chgE k (nxA (chgL X k) l))
  rw [← e]
  exact .one rfl
theorem Ok.hv_chg (h : Ok X) (hp : planarB X = true) {k : Nat} (hk : k < X.length) (L : Nat) : V K (h.ar L) noS (fl tru k) = hv K (h.chg_ok hk) L := by
  have hE := h.chg_emb hk L
  have hR := h.chg_red hk L
  have := sim_one (K := K) (hD := tru) (h.linked hp L) ((h.chg_ok hk).linked (by rw [h.chg_planar hk]; exact hp) L) hE hR (tops_nil _ _ _ _ fun y _ hd => by cases hd) (k_same hE hR rfl) tru
  unfold hv
  rw [← this]
  refine V_congr K _ fun d _ _ => ?_
  unfold lf
  rw [if_neg (by simp)]
  have e2 : (2 * d + 1) / 2 = d := by omega
  unfold chgE
  by_cases c : d = k
  · rw [c, fl_same, show (2 * k + 1) / 2 = k by omega, if_pos rfl, ov_mt]
    unfold ov
    rw [if_pos (by omega)]
  · rw [fl_ne c, e2, if_neg c]
    unfold ov
    rw [if_pos (by omega)]
/- THE SKEIN RELATION, of diagrams -/
theorem Ok.hv_skein (h : Ok X) (hp : planarB X = true) {k : Nat} (hk : k < X.length) (L : Nat) : hv K h L = K.T (cr X k).p (hv K (h.chg_ok hk) L) (hv K (h.smooth_ok hk) (L + smN X k)) := by
  have e : (only k : St) = ad noS k := funext fun d => by
    unfold ad
    by_cases c : d = k
    · simp [c]
    · simp [c]
  have h1 := skein K (h.ar L) noS k hk rfl tru
  rw [h.hv_chg hp hk L, ← e, h.hv_smooth hp hk L] at h1
  exact h1
end
end Go.Proofs.Ytlicglicfijelaa.Kn

/- The mirror image's value: plain mathematics. -/
namespace Go.Proofs.Ytlicglicfijelaa.Kn

section
variable {W : Type} {K : CA W} {A : Ar}
def ng (h : St) : St := fun c => !h c
theorem ov_ng (h : St) (l : Nat) : ov (ng h) l = !ov h l := by unfold ov ng; split <;> rfl
theorem sgh_ng (h : St) (c : Nat) : sgh A (ng h) c = !sgh A h c := by unfold sgh ng; cases h c <;> simp
theorem ng_fl (h : St) (c : Nat) : ng (fl h c) = fl (ng h) c := funext fun d => by
  unfold ng fl
  by_cases k : d = c
  · rw [if_pos k, if_pos k]
  · rw [if_neg k, if_neg k]
/- all crossings changed -/
theorem mir (hLK : LK A) {φ : W → W} (hT : ∀ e u v, φ (K.T e u v) = K.T (!e) (φ u) (φ v)) (hD : ∀ k, 1 ≤ k → φ (K.D k) = K.D k) : ∀ (m : Nat) (S : St), A.live S = m → 1 ≤ A.k S → ∀ h, V K A S (ng h) = φ (V K A S h) := by
  intro m
  induction m using Nat.strongRecOn with
  | ind m ih =>
    intro S hm hk h
    have kp : ∀ c, c < A.n → S c = false → 1 ≤ A.k (ad S c) := fun c hc hS => by
      obtain ⟨p1, p2⟩ := A.k_ad (S := S) (l := 2 * c) (by omega) (by rw [show 2 * c / 2 = c by omega]; exact hS)
      rw [show 2 * c / 2 = c by omega] at p1 p2
      obtain ⟨ws, hW⟩ := A.ws_ex (ad S c)
      rw [Ws.k_eq _ hW]
      have : ws ≠ [] := by
        rintro rfl
        have := hW.perm.length_eq
        simp at this
        omega
      have : 0 < ws.length := List.length_pos_iff.2 this
      omega
    have IH : ∀ c, c < A.n → S c = false → ∀ h, V K A (ad S c) (ng h) = φ (V K A (ad S c) h) := fun c hc hS h => by
      have := A.live_ad hc hS
      exact ih (A.live (ad S c)) (by omega) _ rfl (kp c hc hS) h
    -- one state
    obtain ⟨h0, base⟩ : ∃ h0, V K A S (ng h0) = φ (V K A S h0) := by
      obtain ⟨ws, hW⟩ := A.ws_ex S
      by_cases hs : ∃ w ∈ ws, ∃ x ∈ w, S (x / 2) = false ∧ mt x ∈ w
      · obtain ⟨w, hw, x, hx, hS, hm'⟩ := hs
        obtain ⟨P, Q, rfl⟩ := List.append_of_mem hw
        obtain ⟨s, t, rfl⟩ := List.append_of_mem hx
        have hmt : mt x ∈ t ++ s := by
          simp only [List.mem_append, List.mem_cons] at hm' ⊢
          rcases hm' with k | k | k
          · exact .inr k
          · exact absurd k (mt_ne x)
          · exact .inl k
        obtain ⟨p, q, hpq⟩ := List.append_of_mem hmt
        have W1 : Ws (2 * A.n) (A.nS S) (P ++ (x :: p ++ mt x :: q) :: Q) := by
          have := hW.rot
          rw [List.cons_append, hpq] at this
          simpa using this
        have hx2 : x < 2 * A.n := W1.mem.1 (by simp)
        have hc : x / 2 < A.n := by omega
        have W2 := Ws.split A hS W1
        have n2 := W2.nodup
        obtain ⟨F, hF⟩ : ∃ F, F = (P ++ (x :: p ++ mt x :: q) :: Q).flatten := ⟨_, rfl⟩
        have W3 : Ws (2 * A.n) (A.nS (ad S (x / 2))) (((x :: q) :: Q) ++ (P ++ [mt x :: p])) := W2.of_perm (List.perm_iff_count.2 fun z => by simp only [List.count_append, List.count_cons, List.count_nil]; omega)
        have C := W3.clo
        obtain ⟨Hi, hHi⟩ : ∃ H : Nat → Bool, H = fun x_1 => ((x :: q) :: Q).flatten.contains x_1 := ⟨_, rfl⟩
        rw [← hHi] at C
        have mem : ∀ z, Hi z = true ↔ z = x ∨ z ∈ q ∨ z ∈ Q.flatten := fun z => by rw [hHi]; simp
        obtain ⟨a1, a2, a3, a4⟩ := nodup3 n2
        have f0 : ∀ d, d ≠ x / 2 → F.filter (fe d) = ((P.flatten ++ (mt x :: p)) ++ ((x :: q) ++ Q.flatten)).filter (fe d) := fun d hd => by
          have e1 : fe d x = false := fe_ne hd.symm
          have e2 : fe d (mt x) = false := fe_ne (by rw [mt_div]; exact hd.symm)
          rw [hF]
          simp [List.filter_append, List.filter_cons, e1, e2]
        have hfl : (P ++ (mt x :: p) :: (x :: q) :: Q).flatten = (P.flatten ++ (mt x :: p)) ++ ((x :: q) ++ Q.flatten) := by simp
        have hLay : Lay A.n S (x / 2) Hi (ng (dn F)) := fun y hy hSy hyc y1 y2 => by
          rw [ov_ng]
          have : ov (dn F) (mt y) = true := by
            refine dn_desc (n := A.n) (S := S) F (mt y) (mt_lt.2 hy) (by rw [mt_div]; exact hSy) ?_
            rw [mt_mt]
            refine (bef_congr (p := fe (y / 2)) (by simp [fe, mt_div]) (by simp [fe]) (f0 _ hyc)).2 ?_
            have my : mt y ∈ (P.flatten ++ (mt x :: p)) ++ ((x :: q) ++ Q.flatten) := by rw [← hfl]; exact W2.mem.2 (mt_lt.2 hy)
            refine bef_split ((List.mem_append.1 my).resolve_right fun k => ?_) fun k => ?_
            · rw [(mem _).2 (by simpa [or_assoc] using k)] at y2; cases y2
            · have y1' := (mem y).1 y1
              have hyn : y ∈ (x :: q) ++ Q.flatten := by simpa [or_assoc] using y1'
              have nn := n2
              rw [hfl, List.nodup_append] at nn
              exact nn.2.2 y k y hyn rfl
          rw [ov_mt] at this
          simpa using this
        have apart : Hi (2 * (x / 2)) ≠ Hi (2 * (x / 2) + 1) := by
          have h1 : Hi x = true := (mem x).2 (.inl rfl)
          have h2 : Hi (mt x) = false := by
            cases e : Hi (mt x) with
            | false => rfl
            | true =>
              exfalso
              have b := (a1 (mt x) (by simp))
              rcases (mem _).1 e with k | k | k
              · exact mt_ne x k
              · exact b.1 (by simp [k])
              · exact b.2.2 k
          rcases Nat.mod_two_eq_zero_or_one x with m | m
          · have e1 : 2 * (x / 2) = x := by omega
            have e2 : mt x = x + 1 := by unfold mt; rw [if_pos m]
            rw [e2] at h2
            rw [e1, h1, h2]; simp
          · have e1 : 2 * (x / 2) + 1 = x := by omega
            have e2 : mt x = 2 * (x / 2) := by unfold mt; rw [if_neg (by omega)]; omega
            rw [e2] at h2
            rw [e1, h1, h2]; simp
        have L := lam (K := K) hLK S (x / 2) Hi hc hS C apart _ hLay
        have k1 : A.k (ad S (x / 2)) = A.k S + 1 := by
          rw [Ws.k_eq A W1, Ws.k_eq A W2]
          simp only [List.length_append, List.length_cons]
          omega
        have v1 : V K A S (dn F) = K.D (A.k S) := good hLK S _ W1 _ (by rw [hF]; exact dn_desc _)
        have v2 : V K A (ad S (x / 2)) (dn F) = K.D (A.k S + 1) := by
          rw [← k1]
          refine good hLK _ _ W2 _ ((dn_desc (n := A.n) (S := S) F).ad fun d _ _ hd => ?_)
          rw [f0 d hd, hfl]
        refine ⟨dn F, K.σi _ _ ?_⟩
        rw [L, IH _ hc hS, v1, v2, hD _ (by omega), hD _ hk, K.σD _ hk]
      · refine ⟨dn ws.flatten, ?_⟩
        have v1 : V K A S (dn ws.flatten) = K.D (A.k S) := good hLK S _ hW _ (dn_desc _)
        have hR : Ws (2 * A.n) (A.nS S) ws.reverse := hW.of_perm (List.reverse_perm ws)
        have v2 : V K A S (ng (dn ws.flatten)) = K.D (A.k S) := by
          refine good hLK S _ hR _ fun y hy hSy hb => ?_
          rw [ov_ng]
          have : ov (dn ws.flatten) (mt y) = true := by
            refine dn_desc (n := A.n) (S := S) ws.flatten (mt y) (mt_lt.2 hy) (by rw [mt_div]; exact hSy) ?_
            rw [mt_mt]
            obtain ⟨w, hw, hyw⟩ := hW.word hy
            have hmw : mt y ∉ w := fun k => hs ⟨w, hw, y, hyw, hSy, k⟩
            obtain ⟨P, Q, rfl⟩ := List.append_of_mem hw
            obtain ⟨b1, b2⟩ := flat_apart hW.nodup rfl hyw
            have hm2 : mt y ∈ (P ++ w :: Q).flatten := hW.mem.2 (mt_lt.2 hy)
            simp only [List.flatten_append, List.flatten_cons, List.mem_append] at hm2
            rcases hm2 with k | k | k
            · have e1 : (P ++ w :: Q).flatten = P.flatten ++ (w ++ Q.flatten) := by simp
              rw [e1]
              exact bef_split k b1
            · exact absurd k hmw
            · exfalso
              have e1 : (P ++ w :: Q).reverse.flatten = Q.reverse.flatten ++ (w ++ P.reverse.flatten) := by simp
              rw [e1] at hb
              have m1 : mt y ∈ Q.reverse.flatten := (List.reverse_perm Q).flatten.mem_iff.2 k
              have m2 : y ∉ Q.reverse.flatten := fun q => b2 ((List.reverse_perm Q).flatten.mem_iff.1 q)
              exact not_bef hb (bef_split m1 m2)
          rw [ov_mt] at this
          simpa using this
        rw [v1, v2, hD _ hk]
    -- all states
    have key : ∀ (j : Nat) (h : St), ((List.range A.n).countP fun c => !S c && (h c != h0 c)) = j → V K A S (ng h) = φ (V K A S h) := by
      intro j
      induction j with
      | zero =>
        intro h hj
        rw [List.countP_eq_zero] at hj
        have heq : ∀ c, c < A.n → S c = false → h c = h0 c := fun c c1 c2 => by
          have := hj c (List.mem_range.2 c1)
          simpa [c2] using this
        rw [V_congr K A heq, ← base]
        exact V_congr K A fun c c1 c2 => by unfold ng; rw [heq c c1 c2]
      | succ j ihj =>
        intro h hj
        have : ∃ c, c ∈ List.range A.n ∧ (!S c && (h c != h0 c)) = true := by
          refine List.countP_pos_iff.1 ?_
          omega
        obtain ⟨c, hc, hp⟩ := this
        simp only [Bool.and_eq_true, Bool.not_eq_true', bne_iff_ne, ne_eq] at hp
        obtain ⟨hSc, hne⟩ := hp
        rw [List.mem_range] at hc
        have f1 : V K A S (ng (fl h c)) = φ (V K A S (fl h c)) := by
          refine ihj _ ?_
          have := countP_but (l := List.range A.n) List.nodup_range (p := fun c => !S c && (h c != h0 c)) (q := fun d => !S d && (fl h c d != h0 d)) (x := c) (List.mem_range.2 hc) (by simp [hSc, hne]) fun d _ => by
            by_cases k : d = c
            · subst k
              rw [fl_same]
              have : (!h d) = h0 d := by
                revert hne
                cases h d <;> cases h0 d <;> simp
              simp [this]
            · simp [fl_ne k, k]
          omega
        rw [skein K A S c hc hSc h, skein K A S c hc hSc (ng h), hT, ← f1, IH c hc hSc, sgh_ng, ng_fl]
    exact key _ h rfl
end
section
variable {W : Type} {K : CA W} {X : List Cr}
theorem ip_mir {l : Nat} (hl : l < 2 * X.length) : ip X (mt l) = trn (fun c => over (cr X c).p) (ip (mirL X) l) := by
  have hc : cr (mirL X) (l / 2) = mirC (cr X (l / 2)) := cr_map (by omega)
  unfold trn
  rw [ip_one]
  rcases Nat.mod_two_eq_zero_or_one l with m | m
  · rw [ip_even m, ip_odd (by rw [mt_mod]; omega), mt_div]
    simp only
    have := over_lt (cr X (l / 2)).p
    congr 1; omega
  · rw [ip_odd m, ip_even (by rw [mt_mod]; omega), mt_div, hc]
    show (l / 2, 0) = (l / 2, (over (!(cr X (l / 2)).p) + over (cr X (l / 2)).p) % 4)
    unfold over
    cases (cr X (l / 2)).p <;> rfl
theorem mirL_len (X : List Cr) : (mirL X).length = X.length := by simp [mirL]
theorem Ok.mir_ok (h : Ok X) : Ok (mirL X) := (mir_tur X).ok h
theorem Ok.mir_planar (h : Ok X) : planarB (mirL X) = planarB X := (mir_tur X).planar h
theorem Ok.mir_emb (h : Ok X) (L : Nat) : Emb (h.ar L) (h.mir_ok.ar L) mt mt noS := by
  have len := mirL_len X
  refine ⟨fun l hl => ?_, fun l _ => rfl, fun l _ => mt_mt l, fun _ _ => rfl, fun x hx _ => ⟨?_, mt_mt x⟩, fun l hl => ?_⟩
  · have hl : l < 2 * (mirL X).length := hl
    exact mt_lt.2 (show l < 2 * X.length by omega)
  · show mt x < 2 * (mirL X).length
    rw [len]; exact mt_lt.2 hx
  · have hl : l < 2 * (mirL X).length := hl
    have hc : cr (mirL X) (l / 2) = mirC (cr X (l / 2)) := cr_map (by omega)
    rw [sgl_mt]
    show (!if l % 2 = 1 then (cr X (l / 2)).p else !(cr X (l / 2)).p) = if l % 2 = 1 then (cr (mirL X) (l / 2)).p else !(cr (mirL X) (l / 2)).p
    rw [hc]
    show _ = if l % 2 = 1 then (!(cr X (l / 2)).p) else !(!(cr X (l / 2)).p)
    split <;> rfl
theorem Ok.mir_red (h : Ok X) (L : Nat) : Red (h.ar L) (h.mir_ok.ar L) mt noS noS noS := by
  have len := mirL_len X
  have hY := h.mir_ok
  have hT := mir_tur X
  refine ⟨fun _ _ => rfl, fun l hl => ?_⟩
  have hl : l < 2 * (mirL X).length := hl
  have hl' : l < 2 * X.length := by omega
  have he : mt l < 2 * X.length := mt_lt.2 hl'
  have hn : nxA (mirL X) l < 2 * X.length := by have := hY.nx_pm.lt l hl; omega
  have e : (h.ar L).nS noS (mt l) = mt (nxA (mirL X) l) := by
    rw [nS_no]
    refine ip_inj (Y := X) ?_
    show ip X (nxA X (mt l)) = _
    rw [h.ip_nx he, ip_mir hn, hY.ip_nx hl]
    have ho := outA_pl (X := mirL X) hl
    rw [hT.other h (hT.isPl.1 ho)]
    congr 1
    unfold outA
    rw [ip_mir hl']
    unfold trn
    refine Prod.ext rfl ?_
    simp only; omega
  rw [nS_no]
  show Via noS ((h.ar L).nS noS) (mt l) (mt (nxA (mirL X) l))
  rw [← e]
  exact .one rfl
theorem k_pos (A : Ar) (S : St) (h : 0 < A.n + A.L) : 1 ≤ A.k S := by
  obtain ⟨ws, hW⟩ := A.ws_ex S
  rw [Ws.k_eq _ hW]
  by_cases c : A.n = 0
  · omega
  · have : ws ≠ [] := by
      rintro rfl
      have := hW.perm.length_eq
      simp at this
      omega
    have : 0 < ws.length := List.length_pos_iff.2 this
    omega
/- OF THE MIRROR IMAGE -/
theorem Ok.hv_mir (h : Ok X) (hp : planarB X = true) (L : Nat) (hpos : 0 < X.length + L) {φ : W → W} (hT : ∀ e u v, φ (K.T e u v) = K.T (!e) (φ u) (φ v)) (hD : ∀ k, 1 ≤ k → φ (K.D k) = K.D k) : hv K h.mir_ok L = φ (hv K h L) := by
  have hE := h.mir_emb L
  have hR := h.mir_red L
  have h1 := sim_one (K := K) (hD := tru) (h.linked hp L) (h.mir_ok.linked (by rw [h.mir_planar]; exact hp) L) hE hR (tops_nil _ _ _ _ fun y _ hd => by cases hd) (k_same hE hR rfl) tru
  have h2 := mir (K := K) (h.linked hp L) hT hD _ noS rfl (k_pos _ _ hpos) tru
  unfold hv
  rw [← h2, ← h1]
  refine V_congr K _ fun d _ _ => ?_
  unfold lf ng
  rw [if_neg (by simp), ov_mt]
  unfold ov
  rw [if_pos (by omega)]
end
end Go.Proofs.Ytlicglicfijelaa.Kn

/- Two diagrams tied to one: it may be, and is planar just if it must: plain mathematics. -/
namespace Go.Proofs.Ytlicglicfijelaa.Kn

/- relations side by side -/
def dsum (N : Nat) (R R' : Nat → Nat → Prop) (a b : Nat) : Prop := (a < N ∧ b < N ∧ R a b) ∨ (N ≤ a ∧ N ≤ b ∧ R' (a - N) (b - N))
theorem dsum_equiv {N : Nat} {R R' : Nat → Nat → Prop} (h : Equivalence R) (h' : Equivalence R') : Equivalence (dsum N R R') := by
  refine ⟨fun x => ?_, fun {x y} k => ?_, fun {x y z} k l => ?_⟩
  · rcases Nat.lt_or_ge x N with c | c
    · exact .inl ⟨c, c, h.refl x⟩
    · exact .inr ⟨c, c, h'.refl _⟩
  · rcases k with ⟨a, b, c⟩ | ⟨a, b, c⟩
    · exact .inl ⟨b, a, h.symm c⟩
    · exact .inr ⟨b, a, h'.symm c⟩
  · rcases k with ⟨a, b, c⟩ | ⟨a, b, c⟩ <;> rcases l with ⟨d, e, f⟩ | ⟨d, e, f⟩
    · exact .inl ⟨a, e, h.trans c f⟩
    · omega
    · omega
    · exact .inr ⟨a, e, h'.trans c f⟩
theorem cl_dsum {N M : Nat} {R R' : Nat → Nat → Prop} : cl (N + M) (dsum N R R') = cl N R + cl M R' := by
  unfold cl
  rw [List.range_add, List.countP_append, List.countP_map]
  congr 1
  · refine countP_congr' fun d hd => tr_congr ?_
    rw [List.mem_range] at hd
    refine forall_congr' fun e => imp_congr_right fun he => not_congr ?_
    constructor
    · rintro (⟨_, _, k⟩ | ⟨k, _, _⟩)
      · exact k
      · omega
    · exact fun k => .inl ⟨by omega, hd, k⟩
  · refine countP_congr' fun d hd => tr_congr (p := Least (dsum N R R') (N + d)) ?_
    constructor
    · intro h e he k
      exact h (N + e) (by omega) (.inr ⟨by omega, by omega, by rwa [show N + e - N = e by omega, show N + d - N = d by omega]⟩)
    · intro h e he k
      rcases k with ⟨a, b, _⟩ | ⟨a, b, k⟩
      · omega
      · rw [show N + d - N = d by omega] at k
        exact h (e - N) (by omega) k

/- S: X and Y side by side, the place to which x came and the one to which y came turned -/
structure SumOf (X Y S : List Cr) (x y : Nat) : Prop where
  len : S.length = X.length + Y.length
  cx : ∀ p, isPl X p → cm S p = cm X p
  cy : ∀ p, isPl Y p → cm S (X.length + p.1, p.2) = cm Y p
  ax : ∀ p, isPl X p → p ≠ endP X true x → at_ S p = at_ X p
  ay : ∀ p, isPl Y p → p ≠ endP Y true y → at_ S (X.length + p.1, p.2) = at_ Y p + (nArcs X : Int)
  ap : at_ S (endP X true x) = (y : Int) + (nArcs X : Int)
  aq : at_ S (X.length + (endP Y true y).1, (endP Y true y).2) = (x : Int)
def shP (n : Nat) (p : Pl) : Pl := (n + p.1, p.2)
section
variable {X Y S : List Cr} {x y : Nat}
theorem shP_inj {n : Nat} {p q : Pl} (e : shP n p = shP n q) : p = q := by
  unfold shP at e
  injection e with e1 e2
  exact Prod.ext (by omega) e2
theorem shP_ne {p q : Pl} (hp : isPl X p) : p ≠ shP X.length q := fun e => by
  have := hp.1
  rw [e] at this
  unfold shP at this
  simp only at this
  omega
theorem SumOf.arcsEq (h : SumOf X Y S x y) : nArcs S = nArcs X + nArcs Y := by unfold nArcs; rw [h.len]; omega
theorem SumOf.plx (h : SumOf X Y S x y) {p : Pl} (hp : isPl X p) : isPl S p := ⟨by have := hp.1; rw [h.len]; omega, hp.2⟩
theorem SumOf.ply (h : SumOf X Y S x y) {p : Pl} (hp : isPl Y p) : isPl S (shP X.length p) := ⟨by have := hp.1; rw [h.len]; unfold shP; simp only; omega, hp.2⟩
theorem SumOf.split (h : SumOf X Y S x y) {p : Pl} (hp : isPl S p) : isPl X p ∨ ∃ q, isPl Y q ∧ p = shP X.length q := by
  have h1 := hp.1
  rw [h.len] at h1
  by_cases c : p.1 < X.length
  · exact .inl ⟨c, hp.2⟩
  · refine .inr ⟨(p.1 - X.length, p.2), ⟨by simp only; omega, hp.2⟩, ?_⟩
    unfold shP
    exact Prod.ext (by simp only; omega) rfl
/- where an arc ends now -/
def endS (X Y : List Cr) (x y : Nat) (io : Bool) (a : Nat) : Pl :=
  if a ≤ nArcs X then (if a = x ∧ io = true then shP X.length (endP Y true y) else endP X io a)
  else (if a = y + nArcs X ∧ io = true then endP X true x else shP X.length (endP Y io (a - nArcs X)))
theorem SumOf.isEnd (h : SumOf X Y S x y) (hX : Ok X) (hY : Ok Y) (hx : isArc X x) (hy : isArc Y y) {p : Pl} (hp : isPl S p) : endS X Y x y (cm S p) (at_ S p).toNat = p := by
  have p1 := hX.isPl_end (io := true) hx
  have q1 := hY.isPl_end (io := true) hy
  unfold endS
  rcases h.split hp with hx' | ⟨q, hq, rfl⟩
  · by_cases e : p = endP X true x
    · subst e
      rw [h.ap, h.cx _ p1, hX.cm_end hx, if_neg (by have := hy.1; omega), if_pos ⟨by omega, rfl⟩]
    · rw [h.ax p hx' e, h.cx p hx']
      have ha := hX.isArc hx'
      unfold Kn.arcN at ha
      rw [if_pos ha.2, if_neg (fun k => ?_)]
      · exact hX.end_eq hx'
      · apply e
        have := hX.end_eq hx'
        unfold Kn.arcN at this
        rw [k.1, k.2] at this
        exact this.symm
  · have key : (cm S (shP X.length q), at_ S (shP X.length q)) = (cm S (X.length + q.1, q.2), at_ S (X.length + q.1, q.2)) := rfl
    by_cases e : q = endP Y true y
    · subst e
      have e1 : at_ S (shP X.length (endP Y true y)) = (x : Int) := h.aq
      have e2 : cm S (shP X.length (endP Y true y)) = cm Y (endP Y true y) := h.cy _ q1
      rw [e1, e2, hY.cm_end hy, if_pos (by have := hx.2; omega), if_pos ⟨by omega, rfl⟩]
    · have e1 : at_ S (shP X.length q) = at_ Y q + (nArcs X : Int) := h.ay q hq e
      have e2 : cm S (shP X.length q) = cm Y q := h.cy q hq
      have ha := hY.isArc hq
      unfold Kn.arcN at ha
      have e3 : (at_ Y q + (nArcs X : Int)).toNat = (at_ Y q).toNat + nArcs X := by have := ha.1; omega
      rw [e1, e2, e3, if_neg (by have := ha.1; omega), if_neg (fun k => ?_)]
      · rw [show (at_ Y q).toNat + nArcs X - nArcs X = (at_ Y q).toNat by omega]
        congr 1
        exact hY.end_eq hq
      · apply e
        have := hY.end_eq hq
        unfold Kn.arcN at this
        rw [k.2, show (at_ Y q).toNat = y by have := k.1; omega] at this
        exact this.symm
theorem SumOf.atEnd (h : SumOf X Y S x y) (hX : Ok X) (hY : Ok Y) (hx : isArc X x) (hy : isArc Y y) {a : Nat} (ha : isArc S a) (io : Bool) : isPl S (endS X Y x y io a) ∧ cm S (endS X Y x y io a) = io ∧ at_ S (endS X Y x y io a) = a := by
  have hN := h.arcsEq
  have ha1 := ha.1
  have ha2 := ha.2
  unfold endS
  by_cases c : a ≤ nArcs X
  · rw [if_pos c]
    by_cases d : a = x ∧ io = true
    · rw [if_pos d]
      have q1 := hY.isPl_end (io := true) hy
      exact ⟨h.ply q1, (h.cy _ q1).trans ((hY.cm_end hy).trans d.2.symm), h.aq.trans (by rw [d.1])⟩
    · rw [if_neg d]
      have haX : isArc X a := ⟨ha1, c⟩
      have p1 := hX.isPl_end (io := io) haX
      have hne : endP X io a ≠ endP X true x := fun e => by
        have e1 := hX.cm_end (io := io) haX
        have e2 := hX.arc_end (io := io) haX
        rw [e, hX.cm_end hx] at e1
        rw [e, hX.arc_end hx] at e2
        exact d ⟨e2.symm, e1.symm⟩
      exact ⟨h.plx p1, (h.cx _ p1).trans (hX.cm_end haX), (h.ax _ p1 hne).trans (hX.at_end haX)⟩
  · rw [if_neg c]
    by_cases d : a = y + nArcs X ∧ io = true
    · rw [if_pos d]
      have p1 := hX.isPl_end (io := true) hx
      exact ⟨h.plx p1, (h.cx _ p1).trans ((hX.cm_end hx).trans d.2.symm), h.ap.trans (by rw [d.1]; omega)⟩
    · rw [if_neg d]
      have haY : isArc Y (a - nArcs X) := ⟨by omega, by omega⟩
      have q1 := hY.isPl_end (io := io) haY
      have hne : endP Y io (a - nArcs X) ≠ endP Y true y := fun e => by
        have e1 := hY.cm_end (io := io) haY
        have e2 := hY.arc_end (io := io) haY
        rw [e, hY.cm_end hy] at e1
        rw [e, hY.arc_end hy] at e2
        exact d ⟨by omega, e1.symm⟩
      exact ⟨h.ply q1, (h.cy _ q1).trans (hY.cm_end haY), (h.ay _ q1 hne).trans (by rw [hY.at_end haY]; omega)⟩
theorem SumOf.ok (h : SumOf X Y S x y) (hX : Ok X) (hY : Ok Y) (hx : isArc X x) (hy : isArc Y y) : Ok S := by
  have hN := h.arcsEq
  refine ok_mk (fun p hp => ?_) (fun io a ha => ⟨_, h.atEnd hX hY hx hy ha io⟩) fun p q hp hq hc ha => ?_
  · rcases h.split hp with hx' | ⟨q, hq, rfl⟩
    · by_cases e : p = endP X true x
      · rw [e, h.ap]; have := hy.1; have := hy.2; omega
      · rw [h.ax p hx' e]; have := hX.rng p hx'; omega
    · by_cases e : q = endP Y true y
      · have e1 : at_ S (shP X.length q) = (x : Int) := by rw [e]; exact h.aq
        rw [e1]; have := hx.1; have := hx.2; omega
      · have e1 : at_ S (shP X.length q) = at_ Y q + (nArcs X : Int) := h.ay q hq e
        rw [e1]; have := hY.rng q hq; omega
  · rw [← h.isEnd hX hY hx hy hp, ← h.isEnd hX hY hx hy hq, hc, ha]
theorem SumOf.endEq (h : SumOf X Y S x y) (hX : Ok X) (hY : Ok Y) (hx : isArc X x) (hy : isArc Y y) {a : Nat} (ha : isArc S a) (io : Bool) : endP S io a = endS X Y x y io a := by
  have hS := h.ok hX hY hx hy
  obtain ⟨h1, h2, h3⟩ := h.atEnd hX hY hx hy ha io
  exact hS.uniq _ _ (hS.isPl_end ha) h1 (by rw [hS.cm_end ha, h2]) (by rw [hS.at_end ha, h3])
end
end Go.Proofs.Ytlicglicfijelaa.Kn

/- Two diagrams tied to one: faces, pieces; planar just if it must: plain mathematics. -/
namespace Go.Proofs.Ytlicglicfijelaa.Kn

section
variable {X Y S : List Cr} {x y : Nat}
theorem pk_sh (n : Nat) (p : Pl) : pk (shP n p) = pk p + 4 * n := by unfold pk shP; simp only; omega
def muU (X Y : List Cr) (k : Nat) : Nat := if k < 4 * X.length then mate (ens X) k else mate (ens Y) (k - 4 * X.length) + 4 * X.length
theorem swp_out {a b z : Nat} (h : z ≠ a) (k : z ≠ b) : swp a b z = z := swp_ne h k
theorem SumOf.mateEq (h : SumOf X Y S x y) (hX : Ok X) (hY : Ok Y) (hx : isArc X x) (hy : isArc Y y) {z : Pl} (hz : isPl S z) :
    mate (ens S) (pk z) = swp (pk (endP X true x)) (pk (endP Y true y) + 4 * X.length) (swp (pk (endP X false x)) (pk (endP Y false y) + 4 * X.length) (muU X Y (pk z))) := by
  have hS := h.ok hX hY hx hy
  have p1 := hX.isPl_end (io := true) hx
  have o1 := hX.isPl_end (io := false) hx
  have q1 := hY.isPl_end (io := true) hy
  have r1 := hY.isPl_end (io := false) hy
  have lp := pk_lt p1
  have lo := pk_lt o1
  have lq := pk_lt q1
  have lr := pk_lt r1
  have po : pk (endP X true x) ≠ pk (endP X false x) := fun e => by
    have e1 := hX.cm_end (io := true) hx
    rw [pk_inj p1.2 o1.2 e, hX.cm_end hx] at e1; cases e1
  have qr : pk (endP Y true y) ≠ pk (endP Y false y) := fun e => by
    have e1 := hY.cm_end (io := true) hy
    rw [pk_inj q1.2 r1.2 e, hY.cm_end hy] at e1; cases e1
  have op : other X (endP X true x) = endP X false x := by unfold other; rw [hX.cm_end hx, hX.arc_end hx]; rfl
  have oo : other X (endP X false x) = endP X true x := by unfold other; rw [hX.cm_end hx, hX.arc_end hx]; rfl
  have oq : other Y (endP Y true y) = endP Y false y := by unfold other; rw [hY.cm_end hy, hY.arc_end hy]; rfl
  have or_ : other Y (endP Y false y) = endP Y true y := by unfold other; rw [hY.cm_end hy, hY.arc_end hy]; rfl
  have hother : other S z = endS X Y x y (!cm S z) (Kn.arcN S z) := h.endEq hX hY hx hy (hS.isArc hz) _
  rw [hS.mate_pk hz, hother]
  rcases h.split hz with hzx | ⟨v, hv, rfl⟩
  · have lz := pk_lt hzx
    have hmu : muU X Y (pk z) = pk (other X z) := by unfold muU; rw [if_pos lz, hX.mate_pk hzx]
    by_cases e : z = endP X true x
    · subst e
      have ea : Kn.arcN S (endP X true x) = y + nArcs X := by unfold Kn.arcN; rw [h.ap]; omega
      rw [hmu, op, swp_a, swp_out (by omega) (by omega), ea, h.cx _ p1, hX.cm_end hx]
      unfold endS
      rw [if_neg (by have := hy.1; omega), if_neg (by simp), pk_sh, show y + nArcs X - nArcs X = y by omega]
      rfl
    · have ea : Kn.arcN S z = Kn.arcN X z := by unfold Kn.arcN; rw [h.ax z hzx e]
      have har := hX.isArc hzx
      rw [hmu, ea, h.cx z hzx]
      unfold endS
      rw [if_pos har.2]
      by_cases d : Kn.arcN X z = x ∧ (!cm X z) = true
      · have ez : z = endP X false x := by
          have := hX.end_eq hzx
          rw [d.1, show cm X z = false by simpa using d.2] at this
          exact this.symm
        rw [if_pos d, ez, oo, swp_out po (by omega), swp_a, pk_sh]
      · rw [if_neg d]
        have hz' := hX.isPl_other hzx
        have lz' := pk_lt hz'
        have n1 : pk (other X z) ≠ pk (endP X false x) := fun k => by
          have := pk_inj hz'.2 o1.2 k
          have e2 := hX.other_other hzx
          rw [this, oo] at e2
          exact e e2.symm
        have n2 : pk (other X z) ≠ pk (endP X true x) := fun k => by
          have := pk_inj hz'.2 p1.2 k
          have e2 := hX.other_other hzx
          rw [this, op] at e2
          apply d
          rw [← e2, hX.arc_end hx, hX.cm_end hx]; exact ⟨rfl, rfl⟩
        rw [swp_out n1 (by omega), swp_out n2 (by omega)]
        rfl
  · have lv := pk_lt hv
    have hmu : muU X Y (pk (shP X.length v)) = pk (other Y v) + 4 * X.length := by
      unfold muU
      rw [pk_sh, if_neg (by omega), show pk v + 4 * X.length - 4 * X.length = pk v by omega, hY.mate_pk hv]
    have ec : cm S (shP X.length v) = cm Y v := h.cy v hv
    by_cases e : v = endP Y true y
    · subst e
      have e1 : at_ S (shP X.length (endP Y true y)) = (x : Int) := h.aq
      have ea : Kn.arcN S (shP X.length (endP Y true y)) = x := by unfold Kn.arcN; rw [e1]; omega
      rw [hmu, oq, swp_b, swp_out (fun k => po k.symm) (by omega), ea, ec, hY.cm_end hy]
      unfold endS
      rw [if_pos hx.2, if_neg (by simp)]
      rfl
    · have e1 : at_ S (shP X.length v) = at_ Y v + (nArcs X : Int) := h.ay v hv e
      have har := hY.isArc hv
      have hav := hY.arcN_eq hv
      have ea : Kn.arcN S (shP X.length v) = Kn.arcN Y v + nArcs X := by
        have : (Kn.arcN S (shP X.length v)) = (at_ S (shP X.length v)).toNat := rfl
        rw [this, e1]; omega
      rw [hmu, ea, ec]
      unfold endS
      rw [if_neg (by have := har.1; omega)]
      by_cases d : Kn.arcN Y v + nArcs X = y + nArcs X ∧ (!cm Y v) = true
      · have ez : v = endP Y false y := by
          have := hY.end_eq hv
          rw [show Kn.arcN Y v = y by have := d.1; omega, show cm Y v = false by simpa using d.2] at this
          exact this.symm
        rw [if_pos d, ez, or_, swp_out (a := pk (endP X false x)) (b := pk (endP Y false y) + 4 * X.length) (z := pk (endP Y true y) + 4 * X.length) (by omega) (by omega), swp_b]
      · rw [if_neg d]
        have hz' := hY.isPl_other hv
        have lz' := pk_lt hz'
        have n1 : pk (other Y v) ≠ pk (endP Y false y) := fun k => by
          have := pk_inj hz'.2 r1.2 k
          have e2 := hY.other_other hv
          rw [this, or_] at e2
          exact e e2.symm
        have n2 : pk (other Y v) ≠ pk (endP Y true y) := fun k => by
          have := pk_inj hz'.2 q1.2 k
          have e2 := hY.other_other hv
          rw [this, oq] at e2
          apply d
          rw [← e2, hY.arc_end hy, hY.cm_end hy]; exact ⟨rfl, rfl⟩
        rw [swp_out (a := pk (endP X false x)) (b := pk (endP Y false y) + 4 * X.length) (z := pk (other Y v) + 4 * X.length) (by omega) (by omega), swp_out (a := pk (endP X true x)) (by omega) (by omega), pk_sh, show Kn.arcN Y v + nArcs X - nArcs X = Kn.arcN Y v by omega]
        rfl
/- faces side by side -/
def facU (X Y : List Cr) (k : Nat) : Nat := if k < 4 * X.length then fac X k else fac Y (k - 4 * X.length) + 4 * X.length
theorem facU_pm (hX : Ok X) (hY : Ok Y) : Pm (4 * X.length + 4 * Y.length) (facU X Y) := by
  have h1 := hX.fac_pm
  have h2 := hY.fac_pm
  refine ⟨fun k hk => ?_, fun k hk => ?_, fun a b e => ?_⟩
  · unfold facU
    split
    · next c => have := h1.lt k c; omega
    · have := h2.lt (k - 4 * X.length) (by omega); omega
  · unfold facU
    rw [if_neg (by omega), h2.out _ (by omega)]; omega
  · unfold facU at e
    by_cases c : a < 4 * X.length
    · have l1 := h1.lt a c
      by_cases d : b < 4 * X.length
      · rw [if_pos c, if_pos d] at e; exact h1.inj _ _ e
      · rw [if_pos c, if_neg d] at e; omega
    · by_cases d : b < 4 * X.length
      · have l2 := h1.lt b d
        rw [if_neg c, if_pos d] at e; omega
      · rw [if_neg c, if_neg d] at e
        have := h2.inj _ _ (show fac Y (a - 4 * X.length) = fac Y (b - 4 * X.length) by omega)
        omega
theorem facU_orb (hX : Ok X) (a b : Nat) : Orb (facU X Y) a b ↔ dsum (4 * X.length) (Orb (fac X)) (Orb (fac Y)) a b := by
  have h1 := hX.fac_pm
  by_cases c : a < 4 * X.length
  · have key : ∀ n, it (facU X Y) n a = it (fac X) n a ∧ it (fac X) n a < 4 * X.length := fun n => by
      induction n with
      | zero => exact ⟨rfl, c⟩
      | succ n ih =>
        refine ⟨?_, h1.lt _ ih.2⟩
        rw [it, ih.1, facU, if_pos ih.2]; rfl
    constructor
    · rintro ⟨n, rfl⟩
      rw [(key n).1]
      exact .inl ⟨c, (key n).2, n, rfl⟩
    · rintro (⟨_, _, n, rfl⟩ | ⟨k, _, _⟩)
      · exact ⟨n, (key n).1⟩
      · omega
  · have key : ∀ n, it (facU X Y) n a = it (fac Y) n (a - 4 * X.length) + 4 * X.length := fun n => by
      induction n with
      | zero => show a = a - 4 * X.length + 4 * X.length; omega
      | succ n ih =>
        rw [it, ih, facU, if_neg (by omega), show it (fac Y) n (a - 4 * X.length) + 4 * X.length - 4 * X.length = it (fac Y) n (a - 4 * X.length) by omega]; rfl
    constructor
    · rintro ⟨n, rfl⟩
      rw [key n]
      exact .inr ⟨by omega, by omega, n, by omega⟩
    · rintro (⟨k, _, _⟩ | ⟨_, hb, n, e⟩)
      · omega
      · exact ⟨n, by rw [key n, e]; omega⟩
theorem sig_sum (n m k : Nat) : sig (n + m) k = if k < 4 * n then sig n k else sig m (k - 4 * n) + 4 * n := by
  unfold sig
  split <;> split <;> (try split) <;> omega
theorem SumOf.facEq (h : SumOf X Y S x y) (hX : Ok X) (hY : Ok Y) (hx : isArc X x) (hy : isArc Y y) :
    fac S = fun k => swp (pk (endP X true x)) (pk (endP Y true y) + 4 * X.length) ((fun k => swp (pk (endP X false x)) (pk (endP Y false y) + 4 * X.length) (facU X Y k)) k) := by
  have hS := h.ok hX hY hx hy
  have lp := pk_lt (hX.isPl_end (io := true) hx)
  have lo := pk_lt (hX.isPl_end (io := false) hx)
  have lq := pk_lt (hY.isPl_end (io := true) hy)
  have lr := pk_lt (hY.isPl_end (io := false) hy)
  have hU := facU_pm hX hY
  refine funext fun k => ?_
  by_cases c : k < 4 * S.length
  · have e0 : ∀ j, j < 4 * S.length → j = pk (pl j) := fun j _ => by unfold pk pl; simp only; omega
    have hk := (sig_pm S.length).lt k c
    show mate (ens S) (sig S.length k) = _
    have hm := h.mateEq hX hY hx hy (isPl_pl (X := S) hk)
    rw [← e0 _ hk] at hm
    rw [hm]
    have e1 : muU X Y (sig S.length k) = facU X Y k := by
      rw [h.len, sig_sum]
      unfold muU facU
      by_cases d : k < 4 * X.length
      · rw [if_pos d, if_pos d, if_pos ((sig_pm X.length).lt k d)]; rfl
      · rw [if_neg d, if_neg d, if_neg (by omega), show sig Y.length (k - 4 * X.length) + 4 * X.length - 4 * X.length = sig Y.length (k - 4 * X.length) by omega]; rfl
    rw [e1]
  · have hl := h.len
    show _ = swp _ _ (swp _ _ (facU X Y k))
    rw [hS.fac_pm.out k (by omega), hU.out k (by omega), swp_out (a := pk (endP X false x)) (z := k) (by omega) (by omega), swp_out (z := k) (by omega) (by omega)]
theorem SumOf.faces (h : SumOf X Y S x y) (hX : Ok X) (hY : Ok Y) (hx : isArc X x) (hy : isArc Y y) :
    (facesL S).length + 2 = (facesL X).length + (facesL Y).length ∨ (facesL S).length = (facesL X).length + (facesL Y).length := by
  have hS := h.ok hX hY hx hy
  have lp := pk_lt (hX.isPl_end (io := true) hx)
  have lo := pk_lt (hX.isPl_end (io := false) hx)
  have lq := pk_lt (hY.isPl_end (io := true) hy)
  have lr := pk_lt (hY.isPl_end (io := false) hy)
  have hU := facU_pm hX hY
  have c0 : cl (4 * X.length + 4 * Y.length) (Orb (facU X Y)) = (facesL X).length + (facesL Y).length := by
    rw [cl_congr (facU_orb hX), cl_dsum, hX.cl_faces, hY.cl_faces]
  have h1 := hU.swp (a := pk (endP X false x)) (b := pk (endP Y false y) + 4 * X.length) (by omega) (by omega)
  have c1 := cl_join hU (a := pk (endP X false x)) (b := pk (endP Y false y) + 4 * X.length) (by omega) (by omega) fun k => by
    rcases (facU_orb hX _ _).1 k with ⟨_, k, _⟩ | ⟨k, _, _⟩ <;> omega
  obtain ⟨f1, e1⟩ : ∃ f1 : Nat → Nat, f1 = fun k => swp (pk (endP X false x)) (pk (endP Y false y) + 4 * X.length) (facU X Y k) := ⟨_, rfl⟩
  have hfac : fac S = fun k => swp (pk (endP X true x)) (pk (endP Y true y) + 4 * X.length) (f1 k) := by rw [e1]; exact h.facEq hX hY hx hy
  rw [← e1] at h1 c1
  have cS := hS.cl_faces
  rw [hfac, show 4 * S.length = 4 * X.length + 4 * Y.length by rw [h.len]; omega] at cS
  by_cases c : Orb f1 (pk (endP X true x)) (pk (endP Y true y) + 4 * X.length)
  · have c2 := cl_part h1 (a := pk (endP X true x)) (b := pk (endP Y true y) + 4 * X.length) (by omega) (by omega) (by omega) c
    right; omega
  · have c2 := cl_join h1 (a := pk (endP X true x)) (b := pk (endP Y true y) + 4 * X.length) (by omega) (by omega) c
    left; omega
/- an arc is no bridge: without it its ends hang together -/
theorem Ok.no_bridge (hX : Ok X) (hx : Kn.isArc X x) : com (sig X.length) (((arcs X).filter fun a => decide (a ≠ x)).map fun a => (pk (endP X true a), pk (endP X false a))) (pk (endP X true x)) (pk (endP X false x)) := Classical.byContradiction fun hn => by
  obtain ⟨es, hes⟩ : ∃ es, es = ((arcs X).filter fun a => decide (a ≠ x)).map fun a => (pk (endP X true a), pk (endP X false a)) := ⟨_, rfl⟩
  rw [← hes] at hn
  have hsub : es.Sublist (ens X) := by rw [hes]; exact List.filter_sublist.map _
  have hg : Good (4 * X.length) es := fun e he => hX.ens_good e (hsub.subset he)
  have hd : Dis es := hX.ens_dis.sublist hsub
  have hc := com_equiv (sig_pm X.length) es
  have lp := pk_lt (hX.isPl_end (io := true) hx)
  obtain ⟨K, hK⟩ : ∃ K : Nat → Bool, ∀ d, K d = tr (com (sig X.length) es (pk (endP X true x)) d) := ⟨_, fun _ => rfl⟩
  have hKc : ∀ {a b}, com (sig X.length) es a b → K a = K b := fun {a b} k => by
    rw [hK, hK]; exact tr_congr ⟨fun l => hc.trans l k, fun l => hc.trans l (hc.symm k)⟩
  have hKp : K (pk (endP X true x)) = true := by rw [hK]; exact tr_iff.2 (hc.refl _)
  have hKo : K (pk (endP X false x)) = false := by rw [hK]; exact tr_false.2 hn
  have h4 := ct_blk (n := X.length) (K := K) (fun d => (hKc (com_sub (Orb.one _ d))).symm) X.length (Nat.le_refl _)
  have hmem : ∀ {e}, e ∈ es → ∃ a, Kn.isArc X a ∧ a ≠ x ∧ e = (pk (endP X true a), pk (endP X false a)) := fun {e} he => by
    rw [hes] at he
    obtain ⟨a, ha, rfl⟩ := List.mem_map.1 he
    obtain ⟨h1, h2⟩ := List.mem_filter.1 ha
    exact ⟨a, mem_arcs.1 h1, by simpa using h2, rfl⟩
  have hm : Mark es (fun d => K d && decide (d < 4 * X.length) && !decide (d = pk (endP X true x))) := by
    refine ⟨fun d k => ?_, fun e he => ?_⟩
    · simp only [Bool.and_eq_true, decide_eq_true_eq, Bool.not_eq_true', decide_eq_false_iff_not] at k
      obtain ⟨⟨k1, k2⟩, k3⟩ := k
      have e0 : d = pk (pl d) := by unfold pk pl; simp only; omega
      have hp := isPl_pl (X := X) k2
      have ha := hX.isArc hp
      have he := hX.end_eq hp
      have hne : arcN X (pl d) ≠ x := fun e => by
        rw [e] at he
        cases c : cm X (pl d) with
        | true => rw [c] at he; exact k3 (by rw [he]; exact e0)
        | false =>
          rw [c] at he
          rw [e0, ← he] at k1
          rw [hKo] at k1; cases k1
      refine ⟨(pk (endP X true (arcN X (pl d))), pk (endP X false (arcN X (pl d)))), ?_, ?_⟩
      · rw [hes]
        exact List.mem_map.2 ⟨_, List.mem_filter.2 ⟨mem_arcs.2 ha, by simpa using hne⟩, rfl⟩
      · cases c : cm X (pl d) with
        | true => left; rw [c] at he; show d = pk (endP X true _); rw [he]; exact e0
        | false => right; rw [c] at he; show d = pk (endP X false _); rw [he]; exact e0
    · have hk := hKc (com_pair (sig_pm X.length) he)
      obtain ⟨g1, g2, _⟩ := hg e he
      obtain ⟨a, ha, hax, rfl⟩ := hmem he
      have n1 : pk (endP X true a) ≠ pk (endP X true x) := fun k => hax (by
        have := pk_inj (hX.isPl_end ha).2 (hX.isPl_end hx).2 k
        rw [← hX.arc_end (io := true) ha, this, hX.arc_end hx])
      have n2 : pk (endP X false a) ≠ pk (endP X true x) := fun k => hax (by
        have := pk_inj (hX.isPl_end ha).2 (hX.isPl_end hx).2 k
        rw [← hX.arc_end (io := false) ha, this, hX.arc_end hx])
      simp only at hk g1 g2
      simp [hk, g1, g2, n1, n2]
  have hev := hm.even hg hd
  have ht := ct_xor (N := 4 * X.length) (fun d => K d && decide (d < 4 * X.length) && !decide (d = pk (endP X true x))) (fun d => true && decide (d = pk (endP X true x)))
  rw [ct_one lp] at ht
  have hsum : ct (4 * X.length) K = ct (4 * X.length) (fun d => xor (K d && decide (d < 4 * X.length) && !decide (d = pk (endP X true x))) (true && decide (d = pk (endP X true x)))) := ct_congr fun d hdl => by
    by_cases k : d = pk (endP X true x)
    · subst k; rw [hKp]; simp
    · simp [k, hdl]
  simp only [if_true] at ht
  omega
theorem SumOf.pieces (h : SumOf X Y S x y) (hX : Ok X) (hY : Ok Y) (hx : isArc X x) (hy : isArc Y y) : (piecesL S).length + 1 = (piecesL X).length + (piecesL Y).length := by
  have hS := h.ok hX hY hx hy
  have hN := h.arcsEq
  have hcS := com_equiv (sig_pm S.length) (ens S)
  have hcX := com_equiv (sig_pm X.length) (ens X)
  have hcY := com_equiv (sig_pm Y.length) (ens Y)
  have hD := dsum_equiv (N := 4 * X.length) hcX hcY
  have lp := pk_lt (hX.isPl_end (io := true) hx)
  have lo := pk_lt (hX.isPl_end (io := false) hx)
  have lq := pk_lt (hY.isPl_end (io := true) hy)
  have lr := pk_lt (hY.isPl_end (io := false) hy)
  have hmS : ∀ {a : Nat}, isArc S a → com (sig S.length) (ens S) (pk (endS X Y x y true a)) (pk (endS X Y x y false a)) := fun {a} ha => by
    have := com_pair (sig_pm S.length) (es := ens S) (e := (pk (endP S true a), pk (endP S false a))) (List.mem_map.2 ⟨a, mem_arcs.2 ha, rfl⟩)
    rw [h.endEq hX hY hx hy ha, h.endEq hX hY hx hy ha] at this
    exact this
  have hsx : ∀ k, k < 4 * X.length → com (sig S.length) (ens S) k (sig X.length k) := fun k hk => com_sub ⟨1, by
    show sig S.length k = _
    rw [h.len, sig_sum, if_pos hk]⟩
  have hsy : ∀ k, com (sig S.length) (ens S) (k + 4 * X.length) (sig Y.length k + 4 * X.length) := fun k => com_sub ⟨1, by
    show sig S.length (k + 4 * X.length) = _
    rw [h.len, sig_sum, if_neg (by omega), show k + 4 * X.length - 4 * X.length = k by omega]⟩
  -- what hangs together in X without x hangs together in S
  have hbx : com (sig S.length) (ens S) (pk (endP X true x)) (pk (endP X false x)) := by
    refine com_least (R := fun a b => com (sig S.length) (ens S) a b) hcS (fun k => ?_) (fun e he => ?_) (hX.no_bridge hx)
    · by_cases c : k < 4 * X.length
      · exact hsx k c
      · rw [(sig_pm X.length).out k (by omega)]; exact hcS.refl k
    · obtain ⟨a, ha, rfl⟩ := List.mem_map.1 he
      obtain ⟨h1, h2⟩ := List.mem_filter.1 ha
      have h1 := mem_arcs.1 h1
      have h2 : a ≠ x := by simpa using h2
      have := hmS (a := a) ⟨h1.1, by have := h1.2; omega⟩
      unfold endS at this
      rw [if_pos h1.2, if_neg (fun k => h2 k.1), if_pos h1.2, if_neg (fun k => h2 k.1)] at this
      exact this
  have hby : com (sig S.length) (ens S) (pk (endP Y true y) + 4 * X.length) (pk (endP Y false y) + 4 * X.length) := by
    refine com_least (R := fun a b => com (sig S.length) (ens S) (a + 4 * X.length) (b + 4 * X.length)) ⟨fun _ => hcS.refl _, fun k => hcS.symm k, fun k l => hcS.trans k l⟩ hsy (fun e he => ?_) (hY.no_bridge hy)
    obtain ⟨a, ha, rfl⟩ := List.mem_map.1 he
    obtain ⟨h1, h2⟩ := List.mem_filter.1 ha
    have h1 := mem_arcs.1 h1
    have h2 : a ≠ y := by simpa using h2
    have := hmS (a := a + nArcs X) ⟨by have := h1.1; omega, by have := h1.2; omega⟩
    unfold endS at this
    rw [if_neg (by have := h1.1; omega), if_neg (fun k => h2 (by have := k.1; omega)), if_neg (by have := h1.1; omega), if_neg (fun k => h2 (by have := k.1; omega)), pk_sh, pk_sh, show a + nArcs X - nArcs X = a by omega] at this
    exact this
  -- the tie
  have htie : com (sig S.length) (ens S) (pk (endP X false x)) (pk (endP Y true y) + 4 * X.length) := by
    have := hmS (a := x) ⟨hx.1, by have := hx.2; omega⟩
    unfold endS at this
    rw [if_pos hx.2, if_pos ⟨rfl, rfl⟩, if_pos hx.2, if_neg (by simp), pk_sh] at this
    exact hcS.symm this
  have hall : ∀ a b, com (sig S.length) (ens S) a b ↔ mrg (dsum (4 * X.length) (com (sig X.length) (ens X)) (com (sig Y.length) (ens Y))) (pk (endP X false x)) (pk (endP Y true y) + 4 * X.length) a b := by
    have hM := mrg_equiv hD (pk (endP X false x)) (pk (endP Y true y) + 4 * X.length)
    have dX : ∀ {a b}, a < 4 * X.length → b < 4 * X.length → com (sig X.length) (ens X) a b → mrg (dsum (4 * X.length) (com (sig X.length) (ens X)) (com (sig Y.length) (ens Y))) (pk (endP X false x)) (pk (endP Y true y) + 4 * X.length) a b := fun ha hb k => .inl (.inl ⟨ha, hb, k⟩)
    have dY : ∀ {a b}, com (sig Y.length) (ens Y) a b → mrg (dsum (4 * X.length) (com (sig X.length) (ens X)) (com (sig Y.length) (ens Y))) (pk (endP X false x)) (pk (endP Y true y) + 4 * X.length) (a + 4 * X.length) (b + 4 * X.length) := fun {a b} k => .inl (.inr ⟨by omega, by omega, by rwa [show a + 4 * X.length - 4 * X.length = a by omega, show b + 4 * X.length - 4 * X.length = b by omega]⟩)
    intro a b
    constructor
    · refine com_least hM (fun k => ?_) fun e he => ?_
      · rw [h.len, sig_sum]
        by_cases c : k < 4 * X.length
        · rw [if_pos c]
          exact dX c ((sig_pm X.length).lt k c) (com_sub (Orb.one _ k))
        · rw [if_neg c]
          have := dY (a := k - 4 * X.length) (b := sig Y.length (k - 4 * X.length)) (com_sub (Orb.one _ _))
          rwa [show k - 4 * X.length + 4 * X.length = k by omega] at this
      · obtain ⟨c, hc, rfl⟩ := List.mem_map.1 he
        have hc := mem_arcs.1 hc
        show mrg _ _ _ (pk (endP S true c)) (pk (endP S false c))
        rw [h.endEq hX hY hx hy hc, h.endEq hX hY hx hy hc]
        unfold endS
        have pX : com (sig X.length) (ens X) (pk (endP X true x)) (pk (endP X false x)) := com_pair (sig_pm X.length) (es := ens X) (e := (pk (endP X true x), pk (endP X false x))) (List.mem_map.2 ⟨x, mem_arcs.2 hx, rfl⟩)
        have pY : com (sig Y.length) (ens Y) (pk (endP Y true y)) (pk (endP Y false y)) := com_pair (sig_pm Y.length) (es := ens Y) (e := (pk (endP Y true y), pk (endP Y false y))) (List.mem_map.2 ⟨y, mem_arcs.2 hy, rfl⟩)
        have tie : mrg (dsum (4 * X.length) (com (sig X.length) (ens X)) (com (sig Y.length) (ens Y))) (pk (endP X false x)) (pk (endP Y true y) + 4 * X.length) (pk (endP X false x)) (pk (endP Y true y) + 4 * X.length) := .inr (.inl ⟨hD.refl _, hD.refl _⟩)
        by_cases k : c ≤ nArcs X
        · rw [if_pos k, if_pos k, if_neg (show ¬ (c = x ∧ (false : Bool) = true) by simp)]
          by_cases d : c = x
          · subst d
            rw [if_pos ⟨rfl, rfl⟩, pk_sh]
            exact hM.symm tie
          · rw [if_neg (fun z => d z.1)]
            have hcX' : isArc X c := ⟨hc.1, k⟩
            exact dX (pk_lt (hX.isPl_end hcX')) (pk_lt (hX.isPl_end hcX')) (com_pair (sig_pm X.length) (es := ens X) (e := (pk (endP X true c), pk (endP X false c))) (List.mem_map.2 ⟨c, mem_arcs.2 hcX', rfl⟩))
        · have hc2 := hc.2
          have hcY' : isArc Y (c - nArcs X) := ⟨by omega, by omega⟩
          rw [if_neg k, if_neg k, if_neg (show ¬ (c = y + nArcs X ∧ (false : Bool) = true) by simp), pk_sh]
          by_cases d : c = y + nArcs X
          · rw [if_pos ⟨d, rfl⟩, show c - nArcs X = y by omega]
            exact hM.trans (dX lp lo pX) (hM.trans tie (dY pY))
          · rw [if_neg (fun z => d z.1), pk_sh]
            exact dY (com_pair (sig_pm Y.length) (es := ens Y) (e := (pk (endP Y true (c - nArcs X)), pk (endP Y false (c - nArcs X)))) (List.mem_map.2 ⟨_, mem_arcs.2 hcY', rfl⟩))
    · have sub : ∀ {a b}, dsum (4 * X.length) (com (sig X.length) (ens X)) (com (sig Y.length) (ens Y)) a b → com (sig S.length) (ens S) a b := fun {a b} k => by
        rcases k with ⟨ha, hb, k⟩ | ⟨ha, hb, k⟩
        · refine com_least (R := fun a b => com (sig S.length) (ens S) a b) hcS (fun k => ?_) (fun e he => ?_) k
          · by_cases c : k < 4 * X.length
            · exact hsx k c
            · rw [(sig_pm X.length).out k (by omega)]; exact hcS.refl k
          · obtain ⟨c, hc, rfl⟩ := List.mem_map.1 he
            have hc := mem_arcs.1 hc
            by_cases d : c = x
            · subst d; exact hbx
            · have := hmS (a := c) ⟨hc.1, by have := hc.2; omega⟩
              unfold endS at this
              rw [if_pos hc.2, if_neg (fun k => d k.1), if_pos hc.2, if_neg (fun k => d k.1)] at this
              exact this
        · have := com_least (R := fun a b => com (sig S.length) (ens S) (a + 4 * X.length) (b + 4 * X.length)) ⟨fun _ => hcS.refl _, fun k => hcS.symm k, fun k l => hcS.trans k l⟩ hsy (fun e he => by
            obtain ⟨c, hc, rfl⟩ := List.mem_map.1 he
            have hc := mem_arcs.1 hc
            by_cases d : c = y
            · subst d; exact hby
            · have := hmS (a := c + nArcs X) ⟨by have := hc.1; omega, by have := hc.2; omega⟩
              unfold endS at this
              rw [if_neg (by have := hc.1; omega), if_neg (fun k => d (by have := k.1; omega)), if_neg (by have := hc.1; omega), if_neg (fun k => d (by have := k.1; omega)), pk_sh, pk_sh, show c + nArcs X - nArcs X = c by omega] at this
              exact this) k
          rwa [show a - 4 * X.length + 4 * X.length = a by omega, show b - 4 * X.length + 4 * X.length = b by omega] at this
      rintro (k | ⟨k1, k2⟩ | ⟨k1, k2⟩)
      · exact sub k
      · exact hcS.trans (sub k1) (hcS.trans htie (sub k2))
      · exact hcS.trans (sub k1) (hcS.trans (hcS.symm htie) (sub k2))
  have c1 : cl (4 * S.length) (com (sig S.length) (ens S)) = (piecesL S).length := hS.cl_pieces
  have c2 : cl (4 * X.length) (com (sig X.length) (ens X)) = (piecesL X).length := hX.cl_pieces
  have c3 : cl (4 * Y.length) (com (sig Y.length) (ens Y)) = (piecesL Y).length := hY.cl_pieces
  rw [cl_congr hall, show 4 * S.length = 4 * X.length + 4 * Y.length by rw [h.len]; omega] at c1
  have c4 := cl_mrg (N := 4 * X.length + 4 * Y.length) hD (a := pk (endP X false x)) (b := pk (endP Y true y) + 4 * X.length) (by omega) (by omega) fun k => by
    rcases k with ⟨_, k, _⟩ | ⟨k, _, _⟩ <;> omega
  rw [c1, cl_dsum, c2, c3] at c4
  exact c4
end
end Go.Proofs.Ytlicglicfijelaa.Kn

/- Two diagrams tied to one: the product of their values: plain mathematics. -/
namespace Go.Proofs.Ytlicglicfijelaa.Kn

structure CM (W : Type) extends CA W where
  m : W → W → W
  mTl : ∀ e u v w, m (T e u v) w = T e (m u w) (m v w)
  mTr : ∀ e u v w, m w (T e u v) = T e (m w u) (m w v)
  mD : ∀ i j, 1 ≤ i → 1 ≤ j → m (D i) (D j) = D (i + j - 1)
def jn (n : Nat) (S T : St) : St := fun c => if c < n then S c else T (c - n)
def sh (n : Nat) (l : Nat) : Nat := l + 2 * n
structure SumA (A B C : Ar) (v v' : Nat) : Prop where
  n : C.n = A.n + B.n
  L : C.L = A.L + B.L
  vl : v < 2 * A.n
  vl' : v' < 2 * B.n
  sg1 : ∀ c, c < A.n → C.sg c = A.sg c
  sg2 : ∀ c, c < B.n → C.sg (A.n + c) = B.sg c
  nx1 : ∀ z, z < 2 * A.n → C.nx z = swp v (sh A.n v') (A.nx z)
  nx2 : ∀ z, z < 2 * B.n → C.nx (sh A.n z) = swp v (sh A.n v') (sh A.n (B.nx z))
section
variable {A B C : Ar} {v v' : Nat} {S T : St}
theorem jn_lt {n c : Nat} (h : c < n) : jn n S T c = S c := if_pos h
theorem jn_ge {n c : Nat} : jn n S T (n + c) = T c := by unfold jn; rw [if_neg (by omega), Nat.add_sub_cancel_left]
theorem sh_div (n l : Nat) : sh n l / 2 = n + l / 2 := by unfold sh; omega
theorem sh_mt (n l : Nat) : mt (sh n l) = sh n (mt l) := by unfold sh mt; split <;> split <;> omega
theorem sh_mod (n l : Nat) : sh n l % 2 = l % 2 := by unfold sh; omega
theorem ov_jn1 {n y : Nat} (h : y < 2 * n) : ov (jn n S T) y = ov S y := ov_congr (jn_lt (by omega))
theorem ov_jn2 {n z : Nat} : ov (jn n S T) (sh n z) = ov T z := by
  unfold ov
  rw [sh_div, sh_mod, jn_ge]
theorem SumA.nS1 (h : SumA A B C v v') {z : Nat} (hz : z < 2 * A.n) : C.nS (jn A.n S T) z = swp v (sh A.n v') (A.nS S z) := by
  have hn := h.n
  unfold Ar.nS
  rw [jn_lt (show z / 2 < A.n by omega)]
  by_cases c : S (z / 2) = true
  · rw [if_pos ⟨c, by omega⟩, if_pos ⟨c, hz⟩, h.nx1 _ (mt_lt.2 hz)]
  · rw [if_neg (fun k => c k.1), if_neg (fun k => c k.1), h.nx1 _ hz]
theorem SumA.nS2 (h : SumA A B C v v') {z : Nat} (hz : z < 2 * B.n) : C.nS (jn A.n S T) (sh A.n z) = swp v (sh A.n v') (sh A.n (B.nS T z)) := by
  have hn := h.n
  unfold Ar.nS
  rw [sh_div, jn_ge, sh_mt]
  by_cases c : T (z / 2) = true
  · rw [if_pos ⟨c, by unfold sh; omega⟩, if_pos ⟨c, hz⟩, h.nx2 _ (mt_lt.2 hz)]
  · rw [if_neg (fun k => c k.1), if_neg (fun k => c k.1), h.nx2 _ hz]
theorem ch_map {f g : Nat → Nat} {e : Nat → Nat} : ∀ {x z : Nat} {u : List Nat}, Ch f x u z → (∀ y ∈ x :: u, g (e y) = e (f y)) → Ch g (e x) (u.map e) (e z)
  | x, z, [], h, k => by
    have h : f x = z := h
    show g (e x) = e z
    rw [k x (by simp), h]
  | x, z, y :: u, h, k => ⟨by rw [k x (by simp), h.1], ch_map h.2 fun w hw => k w (by simp [hw])⟩
theorem cy_map {f g : Nat → Nat} {e : Nat → Nat} {w : List Nat} (h : Cy f w) (k : ∀ y ∈ w, g (e y) = e (f y)) : Cy g (w.map e) := by
  cases w with
  | nil => exact h
  | cons a u => exact ch_map h k
theorem SumA.words (h : SumA A B C v v') {u u' : List Nat} {R R' : List (List Nat)} (hA : Ws (2 * A.n) (A.nS S) ((v :: u) :: R)) (hB : Ws (2 * B.n) (B.nS T) ((v' :: u') :: R')) :
    Ws (2 * C.n) (C.nS (jn A.n S T)) (((v :: u) ++ (v' :: u').map (sh A.n)) :: (R ++ R'.map (List.map (sh A.n)))) := by
  have hn := h.n
  have nA := hA.nodup
  have nB := hB.nodup
  simp only [List.flatten_cons] at nA nB
  rw [List.nodup_append] at nA nB
  obtain ⟨a1, a2, a3⟩ := nA
  obtain ⟨b1, b2, b3⟩ := nB
  rw [List.nodup_cons] at a1 b1
  have ltA : ∀ x ∈ ((v :: u) :: R).flatten, x < 2 * A.n := fun x hx => hA.mem.1 hx
  have ltB : ∀ x ∈ ((v' :: u') :: R').flatten, x < 2 * B.n := fun x hx => hB.mem.1 hx
  have pmA := A.nS_pm S
  have pmB := B.nS_pm T
  have ne : ∀ x, x < 2 * A.n → x ≠ sh A.n v' := fun x hx => by unfold sh; omega
  have ne' : ∀ x, sh A.n x ≠ v := fun x => by have := h.vl; unfold sh; omega
  have shi : ∀ {x y}, sh A.n x = sh A.n y → x = y := fun {x y} k => by unfold sh at k; omega
  -- a way that does not come back to v
  have wayA : ∀ {x : Nat} {w : List Nat} {z : Nat}, Ch (A.nS S) x w z → (∀ y ∈ x :: w, y < 2 * A.n) → v ∉ w → Ch (C.nS (jn A.n S T)) x w (swp v (sh A.n v') z) := by
    intro x w
    induction w generalizing x with
    | nil =>
      intro z hc hl _
      have hc : A.nS S x = z := hc
      show C.nS (jn A.n S T) x = _
      rw [h.nS1 (hl x (by simp)), hc]
    | cons y w ih =>
      intro z hc hl hv
      refine ⟨?_, ih hc.2 (fun t ht => hl t (by simp [ht])) fun k => hv (by simp [k])⟩
      rw [h.nS1 (hl x (by simp)), hc.1, swp_ne (fun k => hv (by simp [k])) (ne y (hl y (by simp)))]
  have wayB : ∀ {x : Nat} {w : List Nat} {z : Nat}, Ch (B.nS T) x w z → (∀ y ∈ x :: w, y < 2 * B.n) → v' ∉ w → Ch (C.nS (jn A.n S T)) (sh A.n x) (w.map (sh A.n)) (swp v (sh A.n v') (sh A.n z)) := by
    intro x w
    induction w generalizing x with
    | nil =>
      intro z hc hl _
      have hc : B.nS T x = z := hc
      show C.nS (jn A.n S T) (sh A.n x) = _
      rw [h.nS2 (hl x (by simp)), hc]
    | cons y w ih =>
      intro z hc hl hv
      refine ⟨?_, ih hc.2 (fun t ht => hl t (by simp [ht])) fun k => hv (by simp [k])⟩
      rw [h.nS2 (hl x (by simp)), hc.1, swp_ne (ne' y) fun k => hv (by simp [shi k])]
  refine ⟨?_, fun w hw => ?_⟩
  · have e1 : (((v :: u) ++ (v' :: u').map (sh A.n)) :: (R ++ R'.map (List.map (sh A.n)))).flatten.Perm (((v :: u) :: R).flatten ++ (((v' :: u') :: R').flatten).map (sh A.n)) := by
      have : (((v' :: u') :: R').flatten).map (sh A.n) = (v' :: u').map (sh A.n) ++ (R'.map (List.map (sh A.n))).flatten := by
        rw [List.flatten_cons, List.map_append, List.map_flatten]
      rw [this]
      refine List.perm_iff_count.2 fun z => ?_
      simp only [List.flatten_cons, List.flatten_append, List.count_append]
      omega
    refine e1.trans ?_
    rw [hn, Nat.mul_add, List.range_add]
    refine hA.perm.append ?_
    have := hB.perm.map (sh A.n)
    refine this.trans ?_
    have : (List.range (2 * B.n)).map (sh A.n) = (List.range (2 * B.n)).map (2 * A.n + ·) := List.map_congr_left fun x _ => by unfold sh; omega
    rw [this]
  · rcases List.mem_cons.1 hw with rfl | hw
    · have c1 := wayA (show Ch (A.nS S) v u v from hA.cyc (v :: u) (by simp)) (fun y hy => ltA y (by simp only [List.flatten_cons, List.mem_append]; exact .inl hy)) a1.1
      rw [swp_a] at c1
      have c2 := wayB (show Ch (B.nS T) v' u' v' from hB.cyc (v' :: u') (by simp)) (fun y hy => ltB y (by simp only [List.flatten_cons, List.mem_append]; exact .inl hy)) b1.1
      rw [swp_b] at c2
      exact ch_app.2 ⟨c1, c2⟩
    · rcases List.mem_append.1 hw with hw | hw
      · have hc := hA.cyc w (by simp [hw])
        refine cy_congr hc fun x hx => ?_
        have hxf : x ∈ R.flatten := List.mem_flatten.2 ⟨w, hw, hx⟩
        have hnx := cy_closed hc hx
        have hnf : A.nS S x ∈ R.flatten := List.mem_flatten.2 ⟨w, hw, hnx⟩
        have n1 : A.nS S x ≠ v := fun k => a3 v (by simp) _ hnf k.symm
        have n2 : A.nS S x ≠ sh A.n v' := ne _ (pmA.lt x (hA.mem.1 (by rw [List.flatten_cons]; exact List.mem_append.2 (.inr hxf))))
        rw [h.nS1 (hA.mem.1 (by rw [List.flatten_cons]; exact List.mem_append.2 (.inr hxf))), swp_ne n1 n2]
      · obtain ⟨w', hw', rfl⟩ := List.mem_map.1 hw
        have hc := hB.cyc w' (by simp [hw'])
        refine cy_map hc fun x hx => ?_
        have hxf : x ∈ R'.flatten := List.mem_flatten.2 ⟨w', hw', hx⟩
        have hnx := cy_closed hc hx
        have hnf : B.nS T x ∈ R'.flatten := List.mem_flatten.2 ⟨w', hw', hnx⟩
        have n1 : sh A.n (B.nS T x) ≠ sh A.n v' := fun k => b3 v' (by simp) _ hnf (shi k).symm
        rw [h.nS2 (hB.mem.1 (by rw [List.flatten_cons]; exact List.mem_append.2 (.inr hxf))), swp_ne (ne' _) n1]
theorem jn_no {n d : Nat} (k : ¬ d < n) : jn n S T d = T (d - n) := if_neg k
theorem ad_jn1 {n c : Nat} (h : c < n) : ad (jn n S T) c = jn n (ad S c) T := funext fun d => by
  by_cases k : d = c
  · subst k; rw [ad_same, jn_lt h, ad_same]
  · rw [ad_ne k]
    by_cases k' : d < n
    · rw [jn_lt k', jn_lt k', ad_ne k]
    · rw [jn_no k', jn_no k']
theorem ad_jn2 {n c : Nat} : ad (jn n S T) (n + c) = jn n S (ad T c) := funext fun d => by
  by_cases k : d = n + c
  · subst k; rw [ad_same, jn_ge, ad_same]
  · rw [ad_ne k]
    by_cases k' : d < n
    · rw [jn_lt k', jn_lt k']
    · rw [jn_no k', jn_no k', ad_ne (by omega)]
theorem fl_jn1 {n c : Nat} (h : c < n) : fl (jn n S T) c = jn n (fl S c) T := funext fun d => by
  by_cases k : d = c
  · subst k; rw [fl_same, jn_lt h, jn_lt h, fl_same]
  · rw [fl_ne k]
    by_cases k' : d < n
    · rw [jn_lt k', jn_lt k', fl_ne k]
    · rw [jn_no k', jn_no k']
theorem fl_jn2 {n c : Nat} : fl (jn n S T) (n + c) = jn n S (fl T c) := funext fun d => by
  by_cases k : d = n + c
  · subst k; rw [fl_same, jn_ge, jn_ge, fl_same]
  · rw [fl_ne k]
    by_cases k' : d < n
    · rw [jn_lt k', jn_lt k']
    · rw [jn_no k', jn_no k', fl_ne (by omega)]
end
section
variable {W : Type} {K : CM W} {A B C : Ar} {v v' : Nat}
theorem sum_val (hA : LK A) (hB : LK B) (hC : LK C) (h : SumA A B C v v') : ∀ (m : Nat) (S T : St), A.live S + B.live T = m → ∀ g g', V K.toCA C (jn A.n S T) (jn A.n g g') = K.m (V K.toCA A S g) (V K.toCA B T g') := by
  intro m
  induction m using Nat.strongRecOn with
  | ind m ih =>
    intro S T hm g g'
    have hn := h.n
    -- changes
    have step1 : ∀ c, c < A.n → S c = false → ∀ g g', V K.toCA C (jn A.n S T) (jn A.n (fl g c) g') = K.m (V K.toCA A S (fl g c)) (V K.toCA B T g') → V K.toCA C (jn A.n S T) (jn A.n g g') = K.m (V K.toCA A S g) (V K.toCA B T g') := by
      intro c hc hS g g' e
      have hl := A.live_ad hc hS
      have i := ih _ (by omega) (ad S c) T rfl g g'
      have es : sgh C (jn A.n g g') c = sgh A g c := by unfold sgh; rw [jn_lt hc, h.sg1 c hc]
      rw [skein K.toCA C (jn A.n S T) c (by omega) (by rw [jn_lt hc]; exact hS), skein K.toCA A S c hc hS g, K.mTl, ad_jn1 hc, fl_jn1 hc, i, e, es]
    have step2 : ∀ c, c < B.n → T c = false → ∀ g g', V K.toCA C (jn A.n S T) (jn A.n g (fl g' c)) = K.m (V K.toCA A S g) (V K.toCA B T (fl g' c)) → V K.toCA C (jn A.n S T) (jn A.n g g') = K.m (V K.toCA A S g) (V K.toCA B T g') := by
      intro c hc hT g g' e
      have hl := B.live_ad hc hT
      have i := ih _ (by omega) S (ad T c) rfl g g'
      have es : sgh C (jn A.n g g') (A.n + c) = sgh B g' c := by unfold sgh; rw [jn_ge, h.sg2 c hc]
      rw [skein K.toCA C (jn A.n S T) (A.n + c) (by omega) (by rw [jn_ge]; exact hT), skein K.toCA B T c hc hT g', K.mTr, ad_jn2, fl_jn2, i, e, es]
    -- one state
    obtain ⟨u, R, hWA⟩ := A.ws_at S h.vl
    obtain ⟨u', R', hWB⟩ := B.ws_at T h.vl'
    have hWC := h.words hWA hWB
    have kA := Ws.k_eq A hWA
    have kB := Ws.k_eq B hWB
    have kC := Ws.k_eq C hWC
    have hL := h.L
    simp only [List.length_append, List.length_cons, List.length_map] at kA kB kC
    obtain ⟨a0, ha0⟩ : ∃ a0, a0 = dn ((v :: u) :: R).flatten := ⟨_, rfl⟩
    obtain ⟨b0, hb0⟩ : ∃ b0, b0 = dn ((v' :: u') :: R').flatten := ⟨_, rfl⟩
    have base : V K.toCA C (jn A.n S T) (jn A.n a0 b0) = K.m (V K.toCA A S a0) (V K.toCA B T b0) := by
      have q1 : Desc A.n S a0 ((v :: u) :: R).flatten := ha0 ▸ dn_desc _
      have q2 : Desc B.n T b0 ((v' :: u') :: R').flatten := hb0 ▸ dn_desc _
      have v1 : V K.toCA A S a0 = K.D (A.k S) := good (K := K.toCA) hA S _ hWA _ q1
      have v2 : V K.toCA B T b0 = K.D (B.k T) := good (K := K.toCA) hB T _ hWB _ q2
      have v3 : V K.toCA C (jn A.n S T) (jn A.n a0 b0) = K.D (C.k (jn A.n S T)) := by
        refine good (K := K.toCA) hC _ _ hWC _ fun y hy hSy hb => ?_
        have ltB : ∀ x ∈ ((v' :: u') :: R').flatten, x < 2 * B.n := fun x hx => hWB.mem.1 hx
        have ltA : ∀ x ∈ ((v :: u) :: R).flatten, x < 2 * A.n := fun x hx => hWA.mem.1 hx
        by_cases c : y < 2 * A.n
        · rw [ov_jn1 c]
          refine q1 y c (by rw [jn_lt (by omega)] at hSy; exact hSy) ((bef_congr (p := fun x => decide (x < 2 * A.n)) (by simp [c]) (by simpa using mt_lt.2 c) ?_).2 hb)
          have z : ∀ l : List Nat, (l.map (sh A.n)).filter (fun x => decide (x < 2 * A.n)) = [] := fun l => by
            rw [List.filter_eq_nil_iff]
            intro x hx
            obtain ⟨w, _, rfl⟩ := List.mem_map.1 hx
            simp only [decide_eq_true_eq]; unfold sh; omega
          have z' : (R'.map (List.map (sh A.n))).flatten = R'.flatten.map (sh A.n) := by rw [List.map_flatten]
          simp only [List.flatten_cons, List.flatten_append, List.filter_append, z', z, List.append_nil]
        · obtain ⟨y', rfl⟩ : ∃ y', y = sh A.n y' := ⟨y - 2 * A.n, by unfold sh; omega⟩
          have hy' : y' < 2 * B.n := by unfold sh at hy; omega
          rw [ov_jn2]
          rw [sh_div, jn_ge] at hSy
          refine q2 y' hy' hSy ?_
          rw [sh_mt] at hb
          have shi : ∀ {x y}, sh A.n x = sh A.n y → x = y := fun {x y} k => by unfold sh at k; omega
          refine (bef_map (r := sh A.n) (fun a _ k => shi k) (fun a _ k => shi k)).1 ?_
          refine (bef_congr (p := fun x => decide (2 * A.n ≤ x)) (by simp [sh]) (by simp [sh]) ?_).2 hb
          have z : ∀ l : List Nat, (∀ x ∈ l, x < 2 * A.n) → l.filter (fun x => decide (2 * A.n ≤ x)) = [] := fun l hl => by
            rw [List.filter_eq_nil_iff]
            intro x hx
            have := hl x hx
            simp only [decide_eq_true_eq]; omega
          have z' : (R'.map (List.map (sh A.n))).flatten = R'.flatten.map (sh A.n) := by rw [List.map_flatten]
          have z1 := z (v :: u) fun x hx => ltA x (by simp only [List.flatten_cons, List.mem_append]; exact .inl hx)
          have z2 := z R.flatten fun x hx => ltA x (by simp only [List.flatten_cons, List.mem_append]; exact .inr hx)
          simp only [List.flatten_cons, List.flatten_append, List.filter_append, z', z1, z2, List.map_append, List.nil_append]
      rw [v1, v2, v3, K.mD _ _ (by omega) (by omega)]
      congr 1
      omega
    -- all states
    have key : ∀ (j : Nat) (g g' : St), ((List.range A.n).countP fun c => !S c && (g c != a0 c)) + ((List.range B.n).countP fun c => !T c && (g' c != b0 c)) = j → V K.toCA C (jn A.n S T) (jn A.n g g') = K.m (V K.toCA A S g) (V K.toCA B T g') := by
      intro j
      induction j with
      | zero =>
        intro g g' hj
        have e1 : ((List.range A.n).countP fun c => !S c && (g c != a0 c)) = 0 := by omega
        have e2 : ((List.range B.n).countP fun c => !T c && (g' c != b0 c)) = 0 := by omega
        rw [List.countP_eq_zero] at e1 e2
        have h1 : ∀ c, c < A.n → S c = false → g c = a0 c := fun c c1 c2 => by
          have := e1 c (List.mem_range.2 c1)
          simpa [c2] using this
        have h2 : ∀ c, c < B.n → T c = false → g' c = b0 c := fun c c1 c2 => by
          have := e2 c (List.mem_range.2 c1)
          simpa [c2] using this
        rw [V_congr K.toCA A h1, V_congr K.toCA B h2, ← base]
        refine V_congr K.toCA C fun c c1 c2 => ?_
        by_cases k : c < A.n
        · rw [jn_lt k] at c2 ⊢
          rw [jn_lt k]; exact h1 c k c2
        · obtain ⟨d, rfl⟩ : ∃ d, c = A.n + d := ⟨c - A.n, by omega⟩
          rw [jn_ge] at c2 ⊢
          rw [jn_ge]; exact h2 d (by omega) c2
      | succ j ihj =>
        intro g g' hj
        by_cases k : 0 < ((List.range A.n).countP fun c => !S c && (g c != a0 c))
        · obtain ⟨c, hc, hp⟩ := List.countP_pos_iff.1 k
          simp only [Bool.and_eq_true, Bool.not_eq_true', bne_iff_ne, ne_eq] at hp
          obtain ⟨hSc, hne⟩ := hp
          rw [List.mem_range] at hc
          refine step1 c hc hSc g g' (ihj _ _ ?_)
          have := countP_but (l := List.range A.n) List.nodup_range (p := fun c => !S c && (g c != a0 c)) (q := fun d => !S d && (fl g c d != a0 d)) (x := c) (List.mem_range.2 hc) (by simp [hSc, hne]) fun d _ => by
            by_cases k : d = c
            · subst k
              rw [fl_same]
              have : (!g d) = a0 d := by
                revert hne
                cases g d <;> cases a0 d <;> simp
              simp [this]
            · simp [fl_ne k, k]
          omega
        · have k' : 0 < ((List.range B.n).countP fun c => !T c && (g' c != b0 c)) := by omega
          obtain ⟨c, hc, hp⟩ := List.countP_pos_iff.1 k'
          simp only [Bool.and_eq_true, Bool.not_eq_true', bne_iff_ne, ne_eq] at hp
          obtain ⟨hSc, hne⟩ := hp
          rw [List.mem_range] at hc
          refine step2 c hc hSc g g' (ihj _ _ ?_)
          have := countP_but (l := List.range B.n) List.nodup_range (p := fun c => !T c && (g' c != b0 c)) (q := fun d => !T d && (fl g' c d != b0 d)) (x := c) (List.mem_range.2 hc) (by simp [hSc, hne]) fun d _ => by
            by_cases k : d = c
            · subst k
              rw [fl_same]
              have : (!g' d) = b0 d := by
                revert hne
                cases g' d <;> cases b0 d <;> simp
              simp [this]
            · simp [fl_ne k, k]
          omega
    exact key _ g g' rfl
end
section
variable {W : Type} {K : CM W} {X Y Z : List Cr} {x y : Nat}
theorem SumOf.planar2 (h : SumOf X Y Z x y) (hX : Ok X) (hY : Ok Y) (hx : isArc X x) (hy : isArc Y y) (pX : planarB X = true) (pY : planarB Y = true) : planarB Z = true := by
  have hS := h.ok hX hY hx hy
  have h1 := h.faces hX hY hx hy
  have h2 := h.pieces hX hY hx hy
  have h5 := h.len
  have a1 := hX.planar_iff.1 pX
  have a2 := hY.planar_iff.1 pY
  have h3 := hS.euler
  rw [hS.planar_iff]
  omega
theorem SumOf.arc1 (h : SumOf X Y Z x y) {p : Pl} (hp : isPl X p) (hc : cm X p = false) (hX : Ok X) (hx : isArc X x) : arcN Z p = arcN X p := by
  unfold arcN
  rw [h.ax p hp fun e => by rw [e, hX.cm_end hx] at hc; cases hc]
theorem SumOf.arc2 (h : SumOf X Y Z x y) {p : Pl} (hp : isPl Y p) (hc : cm Y p = false) (hY : Ok Y) (hy : isArc Y y) : arcN Z (shP X.length p) = arcN Y p + nArcs X := by
  have e := h.ay p hp fun e => by rw [e, hY.cm_end hy] at hc; cases hc
  have := hY.rng p hp
  unfold arcN
  show (at_ Z (X.length + p.1, p.2)).toNat = _
  rw [e]; omega
theorem SumOf.sum (h : SumOf X Y Z x y) (hX : Ok X) (hY : Ok Y) (hx : isArc X x) (hy : isArc Y y) (L L' : Nat) :
    SumA (hX.ar L) (hY.ar L') ((h.ok hX hY hx hy).ar (L + L')) (Kn.lt (endP X true x)) (Kn.lt (endP Y true y)) := by
  have hZ := h.ok hX hY hx hy
  have px := hX.isPl_end (io := true) hx
  have py := hY.isPl_end (io := true) hy
  have cx := hX.cm_end (io := true) hx
  have cy := hY.cm_end (io := true) hy
  have pZ : ∀ c, c < X.length → (cr Z c).p = (cr X c).p := fun c hc => by
    have h1 := h.cx (c, 3) ⟨hc, by omega⟩
    unfold cm Cr.comes over at h1
    revert h1
    cases (cr Z c).p <;> cases (cr X c).p <;> simp
  have pZ' : ∀ c, c < Y.length → (cr Z (X.length + c)).p = (cr Y c).p := fun c hc => by
    have h1 := h.cy (c, 3) ⟨hc, by omega⟩
    unfold cm Cr.comes over at h1
    revert h1
    cases (cr Z (X.length + c)).p <;> cases (cr Y c).p <;> simp
  have ip1 : ∀ l, l < 2 * X.length → ip Z l = ip X l := fun l hl => by
    rw [ip_two (X := Z) (l := l) (c := l / 2) (b := l % 2) (by omega) (by omega), ip_two (X := X) (l := l) (c := l / 2) (b := l % 2) (by omega) (by omega), pZ _ (by omega)]
  have ip2 : ∀ l, l < 2 * Y.length → ip Z (sh X.length l) = shP X.length (ip Y l) := fun l hl => by
    rw [ip_two (X := Z) (l := sh X.length l) (c := X.length + l / 2) (b := l % 2) (by unfold sh; omega) (by omega), ip_two (X := Y) (l := l) (c := l / 2) (b := l % 2) (by omega) (by omega), pZ' _ (by omega)]
    rfl
  have lt2 : ∀ p : Pl, Kn.lt (shP X.length p) = sh X.length (Kn.lt p) := fun p => by unfold Kn.lt shP sh; simp only; omega
  refine ⟨h.len, rfl, lt_lt px, lt_lt py, fun c hc => pZ c hc, fun c hc => pZ' c hc, fun z hz => ?_, fun z hz => ?_⟩
  · have hz : z < 2 * X.length := hz
    have hzZ : z < 2 * Z.length := by rw [h.len]; omega
    show nxA Z z = swp _ _ (nxA X z)
    have ho := outA_pl (X := X) hz
    have oc := outA_cm (X := X) hz
    have oz : outA Z z = outA X z := by unfold outA; rw [ip1 z hz]
    have aN := h.arc1 ho oc hX hx
    have hr := hX.isArc ho
    have e1 : other Z (outA X z) = if arcN X (outA X z) = x then shP X.length (endP Y true y) else other X (outA X z) := by
      have oZ : isPl Z (outA X z) := h.plx ho
      have cZ : cm Z (outA X z) = false := by rw [h.cx _ ho]; exact oc
      unfold other
      rw [cZ, oc, aN]
      show endP Z true _ = _
      rw [h.endEq hX hY hx hy (by have := hZ.isArc oZ; rwa [aN] at this) true]
      unfold endS
      rw [if_pos hr.2]
      by_cases c : arcN X (outA X z) = x
      · rw [if_pos ⟨c, rfl⟩, if_pos c]
      · rw [if_neg (fun k => c k.1), if_neg c]; rfl
    have n1 : nxA Z z = Kn.lt (other Z (outA X z)) := by unfold nxA; rw [if_pos hzZ, oz]
    have n2 : nxA X z = Kn.lt (other X (outA X z)) := by unfold nxA; rw [if_pos hz]
    have e2 : other X (outA X z) = endP X true (arcN X (outA X z)) := by unfold other; rw [oc]; rfl
    rw [n1, n2, e1]
    by_cases c : arcN X (outA X z) = x
    · rw [if_pos c, e2, c, swp_a]
      exact lt2 _
    · rw [if_neg c, swp_ne]
      · intro k
        have q1 := ip_lt (X := X) (p := other X (outA X z)) (by rw [hX.cm_other ho, oc]; rfl)
        have q2 := ip_lt (X := X) (p := endP X true x) cx
        rw [k, q2] at q1
        refine c ?_
        have := hX.arc_other ho
        rw [← q1, hX.arc_end hx] at this
        exact this.symm
      · have := lt_lt (hX.isPl_other ho)
        show _ ≠ sh X.length _
        unfold sh; omega
  · have hz : z < 2 * Y.length := hz
    have hzZ : sh X.length z < 2 * Z.length := by rw [h.len]; unfold sh; omega
    show nxA Z (sh X.length z) = swp _ _ (sh X.length (nxA Y z))
    have ho := outA_pl (X := Y) hz
    have oc := outA_cm (X := Y) hz
    have oz : outA Z (sh X.length z) = shP X.length (outA Y z) := by unfold outA; rw [ip2 z hz]; rfl
    have aN := h.arc2 ho oc hY hy
    have hr := hY.isArc ho
    have e1 : other Z (shP X.length (outA Y z)) = if arcN Y (outA Y z) = y then endP X true x else shP X.length (other Y (outA Y z)) := by
      have oZ : isPl Z (shP X.length (outA Y z)) := h.ply ho
      have cZ : cm Z (shP X.length (outA Y z)) = false := by
        have := h.cy _ ho
        exact this.trans oc
      unfold other
      rw [cZ, oc, aN]
      show endP Z true _ = _
      rw [h.endEq hX hY hx hy (by have := hZ.isArc oZ; rwa [aN] at this) true]
      unfold endS
      have := hr.1
      rw [if_neg (by omega)]
      by_cases c : arcN Y (outA Y z) = y
      · rw [if_pos ⟨by omega, rfl⟩, if_pos c]
      · rw [if_neg (fun k => c (by omega)), if_neg c]
        congr 2
        omega
    have n1 : nxA Z (sh X.length z) = Kn.lt (other Z (shP X.length (outA Y z))) := by unfold nxA; rw [if_pos hzZ, oz]
    have n2 : nxA Y z = Kn.lt (other Y (outA Y z)) := by unfold nxA; rw [if_pos hz]
    have e2 : other Y (outA Y z) = endP Y true (arcN Y (outA Y z)) := by unfold other; rw [oc]; rfl
    rw [n1, n2, e1]
    by_cases c : arcN Y (outA Y z) = y
    · rw [if_pos c, e2, c]
      exact (swp_b _ _).symm
    · rw [if_neg c, lt2, swp_ne]
      · have := lt_lt px
        unfold sh; omega
      · intro k
        have k : Kn.lt (other Y (outA Y z)) = Kn.lt (endP Y true y) := by
          have k : sh X.length _ = sh X.length _ := k
          unfold sh at k; omega
        have q1 := ip_lt (X := Y) (p := other Y (outA Y z)) (by rw [hY.cm_other ho, oc]; rfl)
        have q2 := ip_lt (X := Y) (p := endP Y true y) cy
        rw [k, q2] at q1
        refine c ?_
        have := hY.arc_other ho
        rw [← q1, hY.arc_end hy] at this
        exact this.symm
/- OF A SUM IT IS THE PRODUCT -/
theorem SumOf.hv_sum (h : SumOf X Y Z x y) (hX : Ok X) (hY : Ok Y) (hx : isArc X x) (hy : isArc Y y) (pX : planarB X = true) (pY : planarB Y = true) (L L' : Nat) :
    hv K.toCA (h.ok hX hY hx hy) (L + L') = K.m (hv K.toCA hX L) (hv K.toCA hY L') := by
  have := sum_val (K := K) (hX.linked pX L) (hY.linked pY L') ((h.ok hX hY hx hy).linked (h.planar2 hX hY hx hy pX pY) (L + L')) (h.sum hX hY hx hy L L') _ noS noS rfl tru tru
  unfold hv
  rw [← this]
  have e1 : jn (hX.ar L).n noS noS = noS := funext fun d => by unfold jn; split <;> rfl
  have e2 : jn (hX.ar L).n tru tru = tru := funext fun d => by unfold jn; split <;> rfl
  rw [e1, e2]
end
end Go.Proofs.Ytlicglicfijelaa.Kn

/- Polynomials of x and z as numbers at pairs of exponents, of which few are not 0: plain mathematics. -/
namespace Go.Proofs.Ytlicglicfijelaa.Kn

abbrev E2 := Int × Int
abbrev L2 := List (E2 × Int)
instance : Add E2 := ⟨fun a b => (a.1 + b.1, a.2 + b.2)⟩
instance : Sub E2 := ⟨fun a b => (a.1 - b.1, a.2 - b.2)⟩
def tt (l : L2) (f : E2 → Int) : Int := (l.map fun t => t.2 * f t.1).sum
def dl (a b : E2) : Int := if b = a then 1 else 0
def cf (l : L2) (a : E2) : Int := tt l (dl a)
theorem tt_nil (f : E2 → Int) : tt [] f = 0 := rfl
theorem tt_cons (t : E2 × Int) (l : L2) (f : E2 → Int) : tt (t :: l) f = t.2 * f t.1 + tt l f := by unfold tt; simp
theorem tt_app (l m : L2) (f : E2 → Int) : tt (l ++ m) f = tt l f + tt m f := by unfold tt; simp
theorem tt_add (l : L2) (f g : E2 → Int) : tt l (fun b => f b + g b) = tt l f + tt l g := by
  induction l with
  | nil => rfl
  | cons t l ih => rw [tt_cons, tt_cons, tt_cons, ih, Int.mul_add]; omega
theorem tt_mul (l : L2) (k : Int) (f : E2 → Int) : tt l (fun b => k * f b) = k * tt l f := by
  induction l with
  | nil => simp [tt_nil]
  | cons t l ih => rw [tt_cons, tt_cons, ih, Int.mul_add, Int.mul_left_comm]
theorem tt_zero (l : L2) : tt l (fun _ => 0) = 0 := by
  induction l with
  | nil => rfl
  | cons t l ih => rw [tt_cons, ih]; simp
theorem tt_congr {l : L2} {f g : E2 → Int} (h : ∀ t ∈ l, f t.1 = g t.1) : tt l f = tt l g := by
  induction l with
  | nil => rfl
  | cons t l ih => rw [tt_cons, tt_cons, h t (by simp), ih fun s hs => h s (by simp [hs])]
theorem cf_cons (t : E2 × Int) (l : L2) (a : E2) : cf (t :: l) a = (if t.1 = a then t.2 else 0) + cf l a := by
  unfold cf
  rw [tt_cons]
  unfold dl
  split <;> simp
theorem cf_app (l m : L2) (a : E2) : cf (l ++ m) a = cf l a + cf m a := tt_app l m _
/- all terms of one place together -/
theorem tt_part (a : E2) (f : E2 → Int) : ∀ l : L2, tt l f = cf l a * f a + tt (l.filter fun t => !decide (t.1 = a)) f
  | [] => by simp [tt_nil, cf]
  | t :: l => by
    rw [tt_cons, tt_part a f l, cf_cons]
    by_cases c : t.1 = a
    · rw [if_pos c, List.filter_cons_of_neg (by simp [c]), c, Int.add_mul]; omega
    · rw [if_neg c, List.filter_cons_of_pos (by simp [c]), tt_cons, Int.zero_add]; omega
theorem cf_filter (a b : E2) : ∀ l : L2, cf (l.filter fun t => !decide (t.1 = a)) b = if b = a then 0 else cf l b
  | [] => by simp [cf, tt_nil]
  | t :: l => by
    by_cases c : t.1 = a
    · rw [List.filter_cons_of_neg (by simp [c]), cf_filter a b l, cf_cons, c]
      by_cases d : b = a
      · rw [if_pos d, if_pos d]
      · rw [if_neg d, if_neg d, if_neg fun e => d e.symm]; omega
    · rw [List.filter_cons_of_pos (by simp [c]), cf_cons, cf_filter a b l, cf_cons]
      by_cases d : b = a
      · rw [if_pos d, if_pos d, if_neg fun e => c (e.trans d)]; rfl
      · rw [if_neg d, if_neg d]
theorem tt_none (f : E2 → Int) : ∀ (n : Nat) (l : L2), l.length = n → (∀ a, cf l a = 0) → tt l f = 0 := by
  intro n
  induction n using Nat.strongRecOn with
  | ind n ih =>
    intro l hn h
    cases l with
    | nil => rfl
    | cons t l =>
      rw [tt_part t.1 f, h, Int.zero_mul, Int.zero_add]
      refine ih _ ?_ _ rfl fun b => ?_
      · rw [List.filter_cons_of_neg (by simp)]
        have := List.length_filter_le (fun s : E2 × Int => !decide (s.1 = t.1)) l
        simp only [List.length_cons] at hn
        omega
      · rw [cf_filter, h]; simp
def nl (l : L2) : L2 := l.map fun t => (t.1, -t.2)
theorem tt_nl (l : L2) (f : E2 → Int) : tt (nl l) f = -tt l f := by
  induction l with
  | nil => rfl
  | cons t l ih =>
    show tt ((t.1, -t.2) :: nl l) f = _
    rw [tt_cons, tt_cons, ih]
    show -t.2 * f t.1 + _ = _
    rw [Int.neg_mul]; omega
theorem tt_same {l m : L2} (h : ∀ a, cf l a = cf m a) (f : E2 → Int) : tt l f = tt m f := by
  have := tt_none f _ (l ++ nl m) rfl fun a => by
    rw [cf_app, h]
    show cf m a + tt (nl m) (dl a) = 0
    rw [tt_nl]
    show cf m a + -cf m a = 0
    omega
  rw [tt_app, tt_nl] at this
  omega
/- shifted and multiplied -/
def sl (d : E2) (k : Int) (l : L2) : L2 := l.map fun t => (t.1 + d, k * t.2)
theorem dl_shift (a b d : E2) : dl a (b + d) = dl (a - d) b := by
  unfold dl
  congr 1
  refine propext ⟨fun h => ?_, fun h => ?_⟩
  · rw [← h]
    refine Prod.ext ?_ ?_
    · show b.1 = b.1 + d.1 - d.1; omega
    · show b.2 = b.2 + d.2 - d.2; omega
  · rw [h]
    refine Prod.ext ?_ ?_
    · show a.1 - d.1 + d.1 = a.1; omega
    · show a.2 - d.2 + d.2 = a.2; omega
theorem cf_sl (d : E2) (k : Int) (l : L2) (a : E2) : cf (sl d k l) a = k * cf l (a - d) := by
  induction l with
  | nil => simp [sl, cf, tt_nil]
  | cons t l ih =>
    have e : sl d k (t :: l) = (t.1 + d, k * t.2) :: sl d k l := rfl
    unfold cf at ih ⊢
    rw [e, tt_cons, tt_cons, ih, Int.mul_add, dl_shift, Int.mul_assoc]

/- polynomials -/
def IsP (w : E2 → Int) : Prop := ∃ l : L2, ∀ a, w a = cf l a
abbrev P2 := { w : E2 → Int // IsP w }
theorem P2.ext {u v : P2} (h : ∀ a, u.1 a = v.1 a) : u = v := Subtype.ext (funext h)
theorem isP_lin {u v : E2 → Int} (hu : IsP u) (hv : IsP v) (d e : E2) (k m : Int) : IsP fun a => k * u (a - d) + m * v (a - e) := by
  obtain ⟨l, hl⟩ := hu
  obtain ⟨r, hr⟩ := hv
  exact ⟨sl d k l ++ sl e m r, fun a => by rw [cf_app, cf_sl, cf_sl, ← hl, ← hr]⟩
def lin (u v : P2) (d e : E2) (k m : Int) : P2 := ⟨fun a => k * u.1 (a - d) + m * v.1 (a - e), isP_lin u.2 v.2 d e k m⟩
def one2 : P2 := ⟨fun a => cf [((0, 0), 1)] a, _, fun _ => rfl⟩
def T2 (e : Bool) (u v : P2) : P2 := if e then lin u v (-2, 0) (-1, 1) 1 1 else lin u v (2, 0) (1, 1) 1 (-1)
def σ2 (w : P2) : P2 := lin w w (1, -1) (-1, -1) 1 (-1)
def D2 : Nat → P2
  | 0 => one2
  | 1 => one2
  | k + 2 => σ2 (D2 (k + 1))
theorem T2_t (u v : P2) (p q : Int) : (T2 true u v).1 (p, q) = u.1 (p + 2, q) + v.1 (p + 1, q - 1) := by
  show 1 * u.1 (p - -2, q - 0) + 1 * v.1 (p - -1, q - 1) = _
  rw [Int.one_mul, Int.one_mul, show p - -2 = p + 2 by omega, show q - 0 = q by omega, show p - -1 = p + 1 by omega]
theorem T2_f (u v : P2) (p q : Int) : (T2 false u v).1 (p, q) = u.1 (p - 2, q) - v.1 (p - 1, q - 1) := by
  show 1 * u.1 (p - 2, q - 0) + -1 * v.1 (p - 1, q - 1) = _
  rw [Int.one_mul, show q - 0 = q by omega, Int.neg_mul, Int.one_mul]; omega
theorem σ2_is (w : P2) (p q : Int) : (σ2 w).1 (p, q) = w.1 (p - 1, q + 1) - w.1 (p + 1, q + 1) := by
  show 1 * w.1 (p - 1, q - -1) + -1 * w.1 (p - -1, q - -1) = _
  rw [Int.one_mul, show q - -1 = q + 1 by omega, show p - -1 = p + 1 by omega, Int.neg_mul, Int.one_mul]; omega
theorem D2_succ {k : Nat} (h : 1 ≤ k) : D2 (k + 1) = σ2 (D2 k) := by
  obtain ⟨j, rfl⟩ : ∃ j, k = j + 1 := ⟨k - 1, by omega⟩
  rfl
theorem far_zero (w : P2) (q : Int) : ∃ N : Nat, ∀ p : Int, (N : Int) < p → w.1 (p, q) = 0 := by
  obtain ⟨l, hl⟩ := w.2
  have : ∀ l : L2, ∃ N : Nat, ∀ p : Int, (N : Int) < p → cf l (p, q) = 0 := by
    intro l
    induction l with
    | nil => exact ⟨0, fun _ _ => rfl⟩
    | cons t l ih =>
      obtain ⟨N, hN⟩ := ih
      refine ⟨N + t.1.1.natAbs, fun p hp => ?_⟩
      rw [cf_cons, hN p (by omega), if_neg]
      · rfl
      · intro e
        have : t.1.1 = p := by rw [e]
        omega
  obtain ⟨N, hN⟩ := this l
  exact ⟨N, fun p hp => by rw [hl, hN p hp]⟩
theorem σ2_inj {u v : P2} (h : σ2 u = σ2 v) : u = v := by
  refine P2.ext fun ⟨p, q⟩ => ?_
  obtain ⟨N, hN⟩ := far_zero u q
  obtain ⟨M, hM⟩ := far_zero v q
  have step : ∀ p, u.1 (p, q) - v.1 (p, q) = u.1 (p + 2, q) - v.1 (p + 2, q) := fun p => by
    have := congrArg (fun w : P2 => w.1 (p + 1, q - 1)) h
    simp only [σ2_is] at this
    rw [show p + 1 - 1 = p by omega, show p + 1 + 1 = p + 2 by omega, show q - 1 + 1 = q by omega] at this
    omega
  have many : ∀ (n : Nat) (p : Int), u.1 (p, q) - v.1 (p, q) = u.1 (p + 2 * n, q) - v.1 (p + 2 * n, q) := by
    intro n
    induction n with
    | zero => intro p; simp
    | succ n ih =>
      intro p
      rw [step p, ih (p + 2)]
      rw [show p + 2 + 2 * (n : Int) = p + 2 * ((n + 1 : Nat) : Int) by omega]
  have := many (N + M + p.natAbs + 1) p
  obtain ⟨P, hP⟩ : ∃ P : Int, P = p + 2 * ((N + M + p.natAbs + 1 : Nat) : Int) := ⟨_, rfl⟩
  rw [← hP, hN P (by omega), hM P (by omega)] at this
  omega
/- products -/
noncomputable def lp (w : P2) : L2 := Classical.choose w.2
theorem lp_is (w : P2) (a : E2) : w.1 a = cf (lp w) a := Classical.choose_spec w.2 a
def mulL (l r : L2) : L2 := r.flatMap fun t => sl t.1 t.2 l
theorem cf_mulL (l r : L2) (a : E2) : cf (mulL l r) a = tt r fun b => cf l (a - b) := by
  induction r with
  | nil => rfl
  | cons t r ih =>
    show cf (sl t.1 t.2 l ++ mulL l r) a = _
    rw [cf_app, cf_sl, ih, tt_cons]
noncomputable def m2 (u w : P2) : P2 := ⟨fun a => tt (lp w) fun b => u.1 (a - b), mulL (lp u) (lp w), fun a => by
  rw [cf_mulL]; exact tt_congr fun t _ => lp_is u _⟩
theorem tt_swap (l r : L2) (a : E2) : (tt r fun b => cf l (a - b)) = tt l fun b => cf r (a - b) := by
  induction r with
  | nil =>
    rw [tt_nil]
    have : tt l (fun b => cf [] (a - b)) = tt l fun _ => 0 := tt_congr fun _ _ => rfl
    rw [this, tt_zero]
  | cons t r ih =>
    rw [tt_cons, ih]
    have : tt l (fun b => cf (t :: r) (a - b)) = tt l (fun b => t.2 * dl (a - t.1) b + cf r (a - b)) := tt_congr fun s _ => by
      unfold cf
      rw [tt_cons]
      congr 2
      unfold dl
      congr 1
      refine propext ⟨fun h => ?_, fun h => ?_⟩
      · refine Prod.ext ?_ ?_
        · have := congrArg Prod.fst h
          have : t.1.1 = a.1 - s.1.1 := this
          show s.1.1 = a.1 - t.1.1; omega
        · have := congrArg Prod.snd h
          have : t.1.2 = a.2 - s.1.2 := this
          show s.1.2 = a.2 - t.1.2; omega
      · refine Prod.ext ?_ ?_
        · have := congrArg Prod.fst h
          have : s.1.1 = a.1 - t.1.1 := this
          show t.1.1 = a.1 - s.1.1; omega
        · have := congrArg Prod.snd h
          have : s.1.2 = a.2 - t.1.2 := this
          show t.1.2 = a.2 - s.1.2; omega
    rw [this, tt_add, tt_mul]
    rfl
theorem m2_comm (u w : P2) : m2 u w = m2 w u := P2.ext fun a => by
  show tt (lp w) (fun b => u.1 (a - b)) = tt (lp u) fun b => w.1 (a - b)
  have h1 : tt (lp w) (fun b => u.1 (a - b)) = tt (lp w) fun b => cf (lp u) (a - b) := tt_congr fun _ _ => lp_is u _
  have h2 : tt (lp u) (fun b => w.1 (a - b)) = tt (lp u) fun b => cf (lp w) (a - b) := tt_congr fun _ _ => lp_is w _
  rw [h1, h2, tt_swap]
theorem m2_of {u w : P2} {l : L2} (h : ∀ a, w.1 a = cf l a) (a : E2) : (m2 u w).1 a = tt l fun b => u.1 (a - b) := by
  show tt (lp w) (fun b => u.1 (a - b)) = _
  exact tt_same (fun b => by rw [← lp_is, h]) _
theorem m2_lin (u v w : P2) (d e : E2) (k m : Int) : m2 (lin u v d e k m) w = lin (m2 u w) (m2 v w) d e k m := P2.ext fun a => by
  show tt (lp w) (fun b => k * u.1 (a - b - d) + m * v.1 (a - b - e)) = k * tt (lp w) (fun b => u.1 (a - d - b)) + m * tt (lp w) fun b => v.1 (a - e - b)
  rw [← tt_mul, ← tt_mul, ← tt_add]
  refine tt_congr fun t _ => ?_
  have c : ∀ d : E2, a - t.1 - d = a - d - t.1 := fun d => Prod.ext (by show a.1 - t.1.1 - d.1 = a.1 - d.1 - t.1.1; omega) (by show a.2 - t.1.2 - d.2 = a.2 - d.2 - t.1.2; omega)
  rw [c d, c e]
theorem m2_one (u : P2) : m2 u one2 = u := P2.ext fun a => by
  rw [m2_of (l := [((0, 0), 1)]) fun _ => rfl, tt_cons, tt_nil]
  have : a - (0, 0) = a := Prod.ext (by show a.1 - 0 = a.1; omega) (by show a.2 - 0 = a.2; omega)
  rw [this]; simp
theorem m2_D : ∀ (i j : Nat), 1 ≤ i → 1 ≤ j → m2 (D2 i) (D2 j) = D2 (i + j - 1)
  | 0, _, h, _ => absurd h (by omega)
  | 1, j, _, hj => by
    show m2 one2 (D2 j) = _
    rw [m2_comm, m2_one, show 1 + j - 1 = j by omega]
  | i + 2, j, _, hj => by
    rw [D2_succ (k := i + 1) (by omega), show i + 2 + j - 1 = (i + 1 + j - 1) + 1 by omega, D2_succ (k := i + 1 + j - 1) (by omega), ← m2_D (i + 1) j (by omega) hj]
    exact m2_lin _ _ _ _ _ _ _
theorem T2_lin (e : Bool) (u v w : P2) : m2 (T2 e u v) w = T2 e (m2 u w) (m2 v w) := by
  cases e
  · exact m2_lin _ _ _ _ _ _ _
  · exact m2_lin _ _ _ _ _ _ _
noncomputable def K2 : CM P2 where
  T := T2
  D := D2
  σ := σ2
  inv := fun e u v => P2.ext fun ⟨p, q⟩ => by
    cases e
    · show (T2 true (T2 false u v) v).1 (p, q) = _
      rw [T2_t, T2_f, show p + 2 - 2 = p by omega, show p + 2 - 1 = p + 1 by omega]; omega
    · show (T2 false (T2 true u v) v).1 (p, q) = _
      rw [T2_f, T2_t, show p - 2 + 2 = p by omega, show p - 2 + 1 = p - 1 by omega]; omega
  mid := fun e f a b c d => P2.ext fun ⟨p, q⟩ => by
    cases e <;> cases f
    · simp only [T2_f]
      rw [show p - 1 - 2 = p - 2 - 1 by omega]; omega
    · simp only [T2_t, T2_f]
      rw [show p + 2 - 2 = p - 2 + 2 by omega, show p + 1 - 2 = p - 2 + 1 by omega, show p + 2 - 1 = p - 1 + 2 by omega, show p + 1 - 1 = p - 1 + 1 by omega]; omega
    · simp only [T2_t, T2_f]
      rw [show p + 2 - 2 = p - 2 + 2 by omega, show p + 1 - 2 = p - 2 + 1 by omega, show p + 2 - 1 = p - 1 + 2 by omega, show p + 1 - 1 = p - 1 + 1 by omega]; omega
    · simp only [T2_t]
      rw [show p + 1 + 2 = p + 2 + 1 by omega]; omega
  base := fun e k hk => P2.ext fun ⟨p, q⟩ => by
    rw [D2_succ hk]
    cases e
    · rw [T2_f, σ2_is, show p - 1 - 1 = p - 2 by omega, show p - 1 + 1 = p by omega, show q - 1 + 1 = q by omega]; omega
    · rw [T2_t, σ2_is, show p + 1 - 1 = p by omega, show p + 1 + 1 = p + 2 by omega, show q - 1 + 1 = q by omega]; omega
  σT := fun e u v => P2.ext fun ⟨p, q⟩ => by
    cases e
    · simp only [T2_f, σ2_is]
      rw [show p - 1 - 2 = p - 2 - 1 by omega, show p + 1 - 2 = p - 2 + 1 by omega, show p + 1 - 1 = p - 1 + 1 by omega, show q + 1 - 1 = q - 1 + 1 by omega]; omega
    · simp only [T2_t, σ2_is]
      rw [show p - 1 + 2 = p + 2 - 1 by omega, show p + 1 + 2 = p + 2 + 1 by omega, show p - 1 + 1 = p + 1 - 1 by omega, show q + 1 - 1 = q - 1 + 1 by omega]; omega
  σD := fun k hk => (D2_succ hk).symm
  σi := fun _ _ h => σ2_inj h
  m := m2
  mTl := fun e u v w => T2_lin e u v w
  mTr := fun e u v w => by rw [m2_comm, T2_lin, m2_comm u, m2_comm v]
  mD := m2_D
/- x^-1 for x, -z for z -/
def sgnZ (q : Int) : Int := if q % 2 = 0 then 1 else -1
theorem sgnZ_succ (q : Int) : sgnZ (q + 1) = -sgnZ q := by unfold sgnZ; split <;> split <;> omega
theorem sgnZ_pred (q : Int) : sgnZ (q - 1) = -sgnZ q := by have := sgnZ_succ (q - 1); rw [show q - 1 + 1 = q by omega] at this; omega
theorem isP_mir {w : E2 → Int} (h : IsP w) : IsP fun a => sgnZ a.2 * w (-a.1, a.2) := by
  obtain ⟨l, hl⟩ := h
  refine ⟨l.map fun t => ((-t.1.1, t.1.2), sgnZ t.1.2 * t.2), fun a => ?_⟩
  show sgnZ a.2 * w (-a.1, a.2) = _
  rw [hl]
  clear hl
  induction l with
  | nil => simp [cf, tt_nil]
  | cons t l ih =>
    rw [List.map_cons, cf_cons, cf_cons, ← ih, Int.mul_add]
    congr 1
    by_cases c : t.1 = (-a.1, a.2)
    · have c1 : t.1.1 = -a.1 := by rw [c]
      have c2 : t.1.2 = a.2 := by rw [c]
      rw [if_pos c, if_pos (by rw [c1, c2]; refine Prod.ext ?_ rfl; show - -a.1 = a.1; omega), c2]
    · rw [if_neg c, if_neg, Int.mul_zero]
      intro e
      refine c (Prod.ext ?_ ?_)
      · have e' : ((-t.1.1, t.1.2) : E2) = a := e
        have := congrArg Prod.fst e'
        have : -t.1.1 = a.1 := this
        show t.1.1 = -a.1; omega
      · have e' : ((-t.1.1, t.1.2) : E2) = a := e
        have := congrArg Prod.snd e'
        show t.1.2 = a.2
        exact this
def φ2 (w : P2) : P2 := ⟨fun a => sgnZ a.2 * w.1 (-a.1, a.2), isP_mir w.2⟩
theorem φ2_is (w : P2) (p q : Int) : (φ2 w).1 (p, q) = sgnZ q * w.1 (-p, q) := rfl
theorem φ2_T (e : Bool) (u v : P2) : φ2 (T2 e u v) = T2 (!e) (φ2 u) (φ2 v) := P2.ext fun ⟨p, q⟩ => by
  cases e
  · show (φ2 (T2 false u v)).1 (p, q) = (T2 true (φ2 u) (φ2 v)).1 (p, q)
    rw [φ2_is, T2_f, T2_t, φ2_is, φ2_is, sgnZ_pred, Int.mul_sub, Int.neg_mul, show -(p + 2) = -p - 2 by omega, show -(p + 1) = -p - 1 by omega]; omega
  · show (φ2 (T2 true u v)).1 (p, q) = (T2 false (φ2 u) (φ2 v)).1 (p, q)
    rw [φ2_is, T2_f, T2_t, φ2_is, φ2_is, sgnZ_pred, Int.mul_add, Int.neg_mul, show -(p - 2) = -p + 2 by omega, show -(p - 1) = -p + 1 by omega]; omega
theorem φ2_σ (w : P2) : φ2 (σ2 w) = σ2 (φ2 w) := P2.ext fun ⟨p, q⟩ => by
  rw [φ2_is, σ2_is, σ2_is, φ2_is, φ2_is, sgnZ_succ, Int.mul_sub, Int.neg_mul, Int.neg_mul, show -(p - 1) = -p + 1 by omega, show -(p + 1) = -p - 1 by omega]; omega
theorem φ2_D : ∀ k, 1 ≤ k → φ2 (D2 k) = D2 k
  | 0, h => absurd h (by omega)
  | 1, _ => P2.ext fun ⟨p, q⟩ => by
    show sgnZ q * cf [((0, 0), 1)] (-p, q) = cf [((0, 0), 1)] (p, q)
    rw [cf_cons, cf_cons]
    by_cases c : ((0, 0) : E2) = (p, q)
    · injection c with c1 c2
      subst c1; subst c2
      simp [sgnZ]
    · rw [if_neg c, if_neg]
      · simp [cf, tt_nil]
      · intro e
        injection e with e1 e2
        exact c (by rw [← e2]; congr 1; omega)
  | k + 2, _ => by rw [D2_succ (k := k + 1) (by omega), φ2_σ, φ2_D (k + 1) (by omega)]
end Go.Proofs.Ytlicglicfijelaa.Kn

/- The polynomial as the program reckons it; lists in form: plain mathematics. -/
namespace Go.Proofs.Ytlicglicfijelaa.Kn

/- the letters along all strands; the first ones of their crossings; the first that is below -/
def la (X : List Cr) (a : Nat) : Nat := lt (endP X true a)
def lw (X : List Cr) : List Nat := (strandsL X).flatten.map (la X)
def fv : List Nat → List Nat → List Nat
  | _, [] => []
  | seen, l :: F => if l / 2 ∈ seen then fv seen F else l :: fv (l / 2 :: seen) F
def evB (l : Nat) : Bool := decide (l % 2 = 0)
def lowX (X : List Cr) : Option Nat := ((fv [] (lw X)).find? evB).map (· / 2)
def bX (X : List Cr) : Nat := (fv [] (lw X)).countP evB
theorem fv_mem : ∀ {seen F : List Nat} {l : Nat}, l ∈ fv seen F → l ∈ F ∧ l / 2 ∉ seen
  | _, [], _, h => by cases h
  | seen, a :: F, l, h => by
    rw [fv] at h
    split at h
    · next c =>
      obtain ⟨h1, h2⟩ := fv_mem h
      exact ⟨by simp [h1], h2⟩
    · next c =>
      rcases List.mem_cons.1 h with rfl | h
      · exact ⟨by simp, c⟩
      · obtain ⟨h1, h2⟩ := fv_mem h
        exact ⟨by simp [h1], fun k => h2 (by simp [k])⟩
theorem fv_nodup : ∀ (seen F : List Nat), ((fv seen F).map (· / 2)).Nodup
  | _, [] => by simp [fv]
  | seen, a :: F => by
    rw [fv]
    split
    · exact fv_nodup seen F
    · rw [List.map_cons, List.nodup_cons]
      refine ⟨fun k => ?_, fv_nodup _ F⟩
      obtain ⟨l, hl, e⟩ := List.mem_map.1 k
      exact (fv_mem hl).2 (by rw [e]; simp)
/- what comes first of its crossing -/
theorem fv_first : ∀ {seen F : List Nat} {l : Nat}, l ∈ F → l / 2 ∉ seen → bef F l (mt l) → l ∈ fv seen F
  | _, [], _, h, _, _ => by cases h
  | seen, a :: F, l, h, hs, hb => by
    rw [fv]
    by_cases e : a = l
    · subst e
      rw [if_neg hs]; simp
    · have hl : l ∈ F := (List.mem_cons.1 h).resolve_left fun k => e k.symm
      have e' : (a == l) = false := by simpa using e
      have em : a ≠ mt l := fun k => by
        subst k
        unfold bef at hb
        rw [List.idxOf_cons, List.idxOf_cons, e'] at hb
        simp at hb
      have em' : (a == mt l) = false := by simpa using em
      have hb' : bef F l (mt l) := by
        unfold bef at hb ⊢
        rw [List.idxOf_cons, List.idxOf_cons, e', em'] at hb
        simpa using hb
      have hd : l / 2 ≠ a / 2 := fun k => (of_div k).elim (fun q => e q.symm) fun q => em (by rw [q, mt_mt])
      split
      · exact fv_first hl hs hb'
      · exact List.mem_cons_of_mem _ (fv_first hl (by simp [hs, hd]) hb')
theorem fv_map {g : Nat → Nat} (hg : ∀ l, g l / 2 = l / 2) : ∀ (seen F : List Nat), fv seen (F.map g) = (fv seen F).map g
  | _, [] => rfl
  | seen, a :: F => by
    rw [List.map_cons, fv, fv, hg, fv_map hg seen F, fv_map hg (a / 2 :: seen) F]
    split <;> rfl
section
variable {X : List Cr}
theorem Ok.la_lt (h : Ok X) {a : Nat} (ha : Kn.isArc X a) : la X a < 2 * X.length := lt_lt (h.isPl_end ha)
theorem Ok.ip_la (h : Ok X) {a : Nat} (ha : Kn.isArc X a) : ip X (la X a) = endP X true a := ip_lt (h.cm_end ha)
theorem Ok.la_next (h : Ok X) {a : Nat} (ha : Kn.isArc X a) : nxA X (la X a) = la X (nextA X a) := by
  refine ip_inj (Y := X) ?_
  have hl := h.la_lt ha
  rw [h.ip_nx hl, h.ip_la (h.isArc_next ha)]
  have e : outA X (la X a) = ((endP X true a).1, ((endP X true a).2 + 2) % 4) := by unfold outA; rw [h.ip_la ha]
  have hc := outA_cm (X := X) hl
  unfold other nextA
  rw [hc, e]; rfl
theorem ch_of_ring {f : Nat → Nat} : ∀ {w : List Nat} {x z : Nat}, (∀ i (h : i + 1 < (x :: w).length), (x :: w)[i + 1] = f ((x :: w)[i]'(by omega))) → f ((x :: w)[w.length]'(by simp)) = z → Ch f x w z
  | [], x, z, _, h => h
  | y :: w, x, z, h, k => by
    refine ⟨(h 0 (by simp)).symm, ch_of_ring (fun i hi => ?_) ?_⟩
    · have := h (i + 1) (by simp at hi ⊢; omega)
      simpa using this
    · simpa using k
theorem Ok.strand_words (h : Ok X) : Ws (2 * X.length) (nxA X) ((strandsL X).map (List.map (la X))) := by
  refine ⟨?_, fun w hw => ?_⟩
  · rw [← List.map_flatten]
    have p := (strands_perm h).map (la X)
    refine p.trans ?_
    have hn : ((arcs X).map (la X)).Nodup := by
      refine map_nodup (arcs_nodup X) fun a ha b hb e => ?_
      have ha := mem_arcs.1 ha
      have hb := mem_arcs.1 hb
      have e1 := h.ip_la ha
      rw [e, h.ip_la hb] at e1
      rw [← h.arc_end (io := true) ha, ← e1, h.arc_end hb]
    refine perm_of_sub hn List.nodup_range (fun x hx => ?_) ?_
    · obtain ⟨a, ha, rfl⟩ := List.mem_map.1 hx
      exact List.mem_range.2 (h.la_lt (mem_arcs.1 ha))
    · rw [List.length_map, arcs_length, List.length_range]; unfold nArcs; omega
  · obtain ⟨r, hr, rfl⟩ := List.mem_map.1 hw
    have hne := strands_ne X r hr
    have hc := h.strands_cyc r hr
    cases r with
    | nil => exact absurd rfl hne
    | cons x u =>
      have hc1 : Ch (nextA X) x u x := by
        refine ch_of_ring (fun i hi => ?_) ?_
        · have := hc i (by omega)
          have e : (i + 1) % (x :: u).length = i + 1 := Nat.mod_eq_of_lt hi
          simp only [e] at this
          exact this
        · have := hc u.length (by simp)
          have e : (u.length + 1) % (x :: u).length = 0 := by simp
          simp only [e] at this
          exact this.symm
      exact ch_map hc1 fun y hy => h.la_next (strands_arc h hr hy)
theorem Ok.lw_words (h : Ok X) : ((strandsL X).map (List.map (la X))).flatten = lw X := by unfold lw; rw [List.map_flatten]
theorem Ok.k_strands (h : Ok X) (L : Nat) : (h.ar L).k noS = (strandsL X).length + L := by
  have e : (h.ar L).nS noS = nxA X := funext fun x => nS_no _ x
  have hW : Ws (2 * (h.ar L).n) ((h.ar L).nS noS) ((strandsL X).map (List.map (la X))) := by rw [e]; exact h.strand_words
  rw [Ws.k_eq _ hW, List.length_map]; rfl
theorem Ok.lw_mem (h : Ok X) {l : Nat} : l ∈ lw X ↔ l < 2 * X.length := by
  have := h.strand_words.mem (x := l)
  rw [h.lw_words] at this
  exact this
theorem Ok.bX_le (h : Ok X) : bX X ≤ X.length := by
  unfold bX
  refine Nat.le_trans (List.countP_le_length) ?_
  have h1 := nodup_le (fv_nodup [] (lw X)) (m := List.range X.length) fun c hc => by
    obtain ⟨l, hl, rfl⟩ := List.mem_map.1 hc
    have := h.lw_mem.1 (fv_mem hl).1
    exact List.mem_range.2 (by omega)
  simpa using h1
theorem lowX_none (h : lowX X = none) : ∀ l ∈ fv [] (lw X), l % 2 = 1 := by
  unfold lowX at h
  rw [Option.map_eq_none_iff, List.find?_eq_none] at h
  intro l hl
  have := h l hl
  unfold evB at this
  simp at this
  omega
theorem lowX_some {k : Nat} (h : lowX X = some k) : 2 * k ∈ fv [] (lw X) := by
  unfold lowX at h
  rw [Option.map_eq_some_iff] at h
  obtain ⟨l, h1, h2⟩ := h
  have h3 := List.find?_some h1
  have h4 := List.mem_of_find?_eq_some h1
  unfold evB at h3
  have h3 : l % 2 = 0 := by simpa using h3
  have : l = 2 * k := by omega
  rw [← this]; exact h4
theorem Ok.low_lt (h : Ok X) {k : Nat} (hk : lowX X = some k) : k < X.length ∧ 1 ≤ bX X := by
  have h1 := lowX_some hk
  have := h.lw_mem.1 (fv_mem h1).1
  refine ⟨by omega, ?_⟩
  unfold bX
  exact List.countP_pos_iff.2 ⟨_, h1, by unfold evB; simp⟩
/- nothing below first: the value is that of rings -/
theorem Ok.hv_low {W : Type} {K : CA W} (h : Ok X) (hp : planarB X = true) (L : Nat) (hl : lowX X = none) : hv K h L = K.D ((strandsL X).length + L) := by
  have e : (h.ar L).nS noS = nxA X := funext fun x => nS_no _ x
  have hW : Ws (2 * (h.ar L).n) ((h.ar L).nS noS) ((strandsL X).map (List.map (la X))) := by rw [e]; exact h.strand_words
  rw [← h.k_strands L]
  refine good (K := K) (h.linked hp L) noS _ hW _ fun y hy _ hb => ?_
  rw [h.lw_words] at hb
  have hm : y ∈ lw X := h.lw_mem.2 hy
  have := lowX_none hl y (fv_first hm (by simp) hb)
  unfold ov
  rw [if_pos this]
/- strands of a changed diagram -/
theorem Ok.next_chg (h : Ok X) {k : Nat} (hk : k < X.length) {a : Nat} (ha : Kn.isArc X a) : nextA (chgL X k) a = nextA X a ∧ la (chgL X k) a = chgE k (la X a) := by
  have hT := chg_tur (X := X) hk
  have hY := h.chg_ok hk
  have ha' : Kn.isArc (chgL X k) a := hT.isArc.2 ha
  have p1 := hY.isPl_end (io := true) ha'
  have p1' := hT.isPl.1 p1
  have e1 : trn (chgT X k) (endP (chgL X k) true a) = endP X true a := by
    refine h.uniq _ _ (isPl_trn p1') (h.isPl_end ha) ?_ ?_
    · have := hT.cm _ p1'
      rw [Bool.xor_false] at this
      rw [← this, hY.cm_end ha', h.cm_end ha]
    · rw [← hT.at_ _ p1', hY.at_end ha', h.at_end ha]
  constructor
  · unfold nextA
    have q := isPl_turn p1' 2
    have : arcN (chgL X k) ((endP (chgL X k) true a).1, ((endP (chgL X k) true a).2 + 2) % 4) = arcN X (trn (chgT X k) ((endP (chgL X k) true a).1, ((endP (chgL X k) true a).2 + 2) % 4)) := hT.arcN q
    rw [this]
    congr 1
    rw [← e1]
    unfold trn
    refine Prod.ext rfl ?_
    simp only; omega
  · refine ip_inj (Y := X) ?_
    have hl := hY.la_lt ha'
    have e2 := ip_chg (X := X) (k := k) (l := la (chgL X k) a) hk
    rw [hY.ip_la ha', e1] at e2
    have e3 : chgE k (la (chgL X k) a) = la X a := ip_inj (Y := X) (by rw [e2, h.ip_la ha])
    rw [← e3, chgE_two]
theorem rings_congr {f g : Nat → Nat} {all : List Nat} (hall : ∀ x ∈ all, f x ∈ all) (hfg : ∀ x ∈ all, g x = f x) (N : Nat) : ∀ {ds seen : List Nat}, (∀ y ∈ ds, y ∈ all) → rings g N seen ds = rings f N seen ds := by
  have hr : ∀ (k : Nat) (seen : List Nat) (x : Nat), x ∈ all → ring g k seen x = ring f k seen x := by
    intro k
    induction k with
    | zero => intro _ _ _; rfl
    | succ k ih =>
      intro seen x hx
      rw [ring, ring, hfg x hx, ih _ _ (hall x hx)]
  intro ds
  induction ds with
  | nil => intro seen _; rw [rings_nil, rings_nil]
  | cons d ds ih =>
    intro seen hd
    rw [rings, rings, hr N seen d (hd d (by simp)), ih fun y hy => hd y (by simp [hy]), ih fun y hy => hd y (by simp [hy])]
theorem Ok.strands_chg (h : Ok X) {k : Nat} (hk : k < X.length) : strandsL (chgL X k) = strandsL X := by
  have hT := chg_tur (X := X) hk
  have e1 : nArcs (chgL X k) = nArcs X := hT.arcs
  have e2 : arcs (chgL X k) = arcs X := by unfold arcs; rw [e1]
  unfold strandsL
  rw [e1, e2]
  exact rings_congr (all := arcs X) (fun x hx => mem_arcs.2 (h.isArc_next (mem_arcs.1 hx))) (fun x hx => (h.next_chg hk (mem_arcs.1 hx)).1) _ fun y hy => hy
theorem Ok.lw_chg (h : Ok X) {k : Nat} (hk : k < X.length) : lw (chgL X k) = (lw X).map (chgE k) := by
  unfold lw
  rw [h.strands_chg hk, List.map_map]
  refine List.map_congr_left fun a ha => ?_
  exact (h.next_chg hk (mem_arcs.1 ((strands_perm h).mem_iff.1 ha))).2
theorem Ok.bX_chg (h : Ok X) {k : Nat} (hk : lowX X = some k) : bX (chgL X k) + 1 = bX X := by
  have hlt := (h.low_lt hk).1
  unfold bX
  rw [h.lw_chg hlt, fv_map (fun l => chgE_div k l), List.countP_map]
  have hn : (fv [] (lw X)).Nodup := by
    have := fv_nodup [] (lw X)
    rw [List.Nodup, List.pairwise_map] at this
    exact this.imp fun q e => q (by rw [e])
  have hd := fv_nodup [] (lw X)
  refine countP_but hn (x := 2 * k) (lowX_some hk) (by unfold evB; simp) fun d hdm => ?_
  show evB (chgE k d) = _
  unfold evB chgE
  by_cases e : d / 2 = k
  · have : d = 2 * k := by
      have i1 : d ∈ fv [] (lw X) := hdm
      have i2 := lowX_some hk
      refine Classical.byContradiction fun c => ?_
      -- two first letters of one crossing
      rw [List.Nodup, List.pairwise_map] at hd
      have key : ∀ {l : List Nat}, l.Pairwise (fun a b => a / 2 ≠ b / 2) → ∀ {a b}, a ∈ l → b ∈ l → a ≠ b → a / 2 ≠ b / 2 := by
        intro l
        induction l with
        | nil => intro _ a b ha; cases ha
        | cons x l ih =>
          intro hp a b ha hb hne
          rw [List.pairwise_cons] at hp
          rcases List.mem_cons.1 ha with qa | qa
          · rcases List.mem_cons.1 hb with qb | qb
            · exact absurd (qa.trans qb.symm) hne
            · rw [qa]; exact hp.1 b qb
          · rcases List.mem_cons.1 hb with qb | qb
            · rw [qb]; exact (hp.1 a qa).symm
            · exact ih hp.2 qa qb hne
      exact key hd i1 i2 c (by omega)
    subst this
    rw [if_pos e, mt_mod]
    simp
  · rw [if_neg e]
    have : d ≠ 2 * k := fun q => e (by omega)
    simp [this]
end
/- as the program does it -/
def rgL : Nat → Nat → L2
  | n, 0 => [((0, 1 - (n : Int)), 1)]
  | n, j + 1 => sl (1, 0) 1 (rgL n j) ++ sl (-1, 0) (-1) (rgL n j)
def ringsT (n : Nat) : L2 := rgL n (n - 1)
def cmb (p : Bool) (u v : L2) : L2 := if p then sl (-2, 0) 1 u ++ sl (-1, 1) 1 v else sl (2, 0) 1 u ++ sl (1, 1) (-1) v
def ofL : Nat → List Cr → Nat → L2
  | 0, _, _ => []
  | f + 1, X, L => match lowX X with
    | none => ringsT ((strandsL X).length + L)
    | some k => cmb (cr X k).p (ofL f (chgL X k) L) (ofL f (smL X k) (L + smN X k))
theorem rgL_cf (n : Nat) : ∀ (j : Nat) (p q : Int), cf (rgL n j) (p, q) = (D2 (j + 1)).1 (p, q + n - 1 - j)
  | 0, p, q => by
    show cf [((0, 1 - (n : Int)), 1)] (p, q) = cf [((0, 0), 1)] (p, q + n - 1 - (0 : Nat))
    rw [cf_cons, cf_cons]
    by_cases c : ((0, 1 - (n : Int)) : E2) = (p, q)
    · rw [if_pos c, if_pos]
      · rfl
      · injection c with c1 c2
        subst c1
        refine Prod.ext rfl ?_
        show (0 : Int) = q + n - 1 - ((0 : Nat) : Int)
        omega
    · rw [if_neg c, if_neg]
      · rfl
      · intro e
        injection e with e1 e2
        refine c (Prod.ext e1 ?_)
        show 1 - (n : Int) = q
        omega
  | j + 1, p, q => by
    rw [rgL, cf_app, cf_sl, cf_sl]
    have h1 := rgL_cf n j (p - 1) q
    have h2 := rgL_cf n j (p + 1) q
    have e1 : ((p, q) - (1, 0) : E2) = (p - 1, q) := by
      refine Prod.ext rfl ?_
      show q - 0 = q; omega
    have e2 : ((p, q) - (-1, 0) : E2) = (p + 1, q) := by
      refine Prod.ext ?_ ?_
      · show p - -1 = p + 1; omega
      · show q - 0 = q; omega
    rw [e1, e2, h1, h2, D2_succ (k := j + 1) (by omega), σ2_is]
    have e3 : q + (n : Int) - 1 - ((j + 1 : Nat) : Int) + 1 = q + n - 1 - j := by omega
    rw [e3]; omega
theorem ringsT_cf {n : Nat} (hn : 1 ≤ n) (a : E2) : cf (ringsT n) a = (D2 n).1 a := by
  obtain ⟨p, q⟩ := a
  unfold ringsT
  rw [rgL_cf, show n - 1 + 1 = n by omega, show q + (n : Int) - 1 - ((n - 1 : Nat) : Int) = q by omega]
theorem cmb_cf (p : Bool) {u v : L2} {U V : P2} (hu : ∀ a, cf u a = U.1 a) (hv : ∀ a, cf v a = V.1 a) (a : E2) : cf (cmb p u v) a = (T2 p U V).1 a := by
  unfold cmb T2
  cases p
  · show cf (sl (2, 0) 1 u ++ sl (1, 1) (-1) v) a = 1 * U.1 (a - (2, 0)) + -1 * V.1 (a - (1, 1))
    rw [cf_app, cf_sl, cf_sl, hu, hv]
  · show cf (sl (-2, 0) 1 u ++ sl (-1, 1) 1 v) a = 1 * U.1 (a - (-2, 0)) + 1 * V.1 (a - (-1, 1))
    rw [cf_app, cf_sl, cf_sl, hu, hv]
theorem smL_len {X : List Cr} {k : Nat} (hk : k < X.length) : (smL X k).length + 1 = X.length := by
  unfold smL
  rw [withL_len, kept_only hk]
theorem Ok.k_smooth {X : List Cr} (h : Ok X) {k : Nat} (hk : k < X.length) (L : Nat) : 1 ≤ (strandsL (smL X k)).length + (L + smN X k) ∧ (strandsL (smL X k)).length + (L + smN X k) ≤ (strandsL X).length + L + 1 := by
  have hT := h.smooth_ties hk
  have e1 := hT.rings L
  have e2 := (h.smooth_ok hk).k_strands (L + smN X k)
  have e3 : (hT.ok.ar (L + ringN X (smF X k) (only k))).k (fun _ => false) = (strandsL (smL X k)).length + (L + smN X k) := e2
  rw [e3] at e1
  have e4 : (only k : St) = ad noS k := funext fun d => by
    unfold ad
    by_cases c : d = k
    · simp [c]
    · simp [c]
  have hpos := k_pos (h.ar L) (only k) (show 0 < X.length + L by omega)
  have e5 := h.k_strands L
  obtain ⟨p1, p2⟩ := (h.ar L).k_ad (S := noS) (l := 2 * k) (by show 2 * k < 2 * X.length; omega) rfl
  rw [show 2 * k / 2 = k by omega, ← e4] at p1 p2
  by_cases o : Orb ((h.ar L).nS noS) (2 * k) (mt (2 * k))
  · have := p1 o
    omega
  · have := p2 o
    omega
/- WHAT THE PROGRAM RECKONS IS THE VALUE -/
theorem ofL_hv : ∀ (f : Nat) {X : List Cr} (h : Ok X) (L : Nat), planarB X = true → 1 ≤ (strandsL X).length + L → X.length * X.length + bX X + 1 ≤ f → ∀ a, cf (ofL f X L) a = (hv K2.toCA h L).1 a
  | 0, X, h, L, _, _, hf, a => by omega
  | f + 1, X, h, L, hp, hk, hf, a => by
    unfold ofL
    cases c : lowX X with
    | none =>
      show cf (ringsT ((strandsL X).length + L)) a = _
      rw [ringsT_cf hk, h.hv_low hp L c]; rfl
    | some k =>
      obtain ⟨k1, k2⟩ := h.low_lt c
      have hb := h.bX_chg c
      have hs := h.strands_chg k1
      have hl : (chgL X k).length = X.length := by simp [chgL]
      have hs2 := smL_len k1
      have hb2 := (h.smooth_ok k1).bX_le
      have i1 := ofL_hv f (h.chg_ok k1) L (by rw [h.chg_planar k1]; exact hp) (by rw [hs]; exact hk) (by rw [hl]; omega)
      have i2 := ofL_hv f (h.smooth_ok k1) (L + smN X k) (h.smooth_planar k1 hp) (h.k_smooth k1 L).1 (by
        obtain ⟨m, hm⟩ : ∃ m, m = (smL X k).length := ⟨_, rfl⟩
        rw [← hm] at hs2 hb2 ⊢
        rw [← hs2] at hf
        have : (m + 1) * (m + 1) = m * m + 2 * m + 1 := by rw [Nat.add_mul, Nat.mul_add, Nat.mul_one, Nat.one_mul]; omega
        omega)
      show cf (cmb _ _ _) a = _
      rw [cmb_cf _ i1 i2, h.hv_skein hp k1 L]; rfl
end Go.Proofs.Ytlicglicfijelaa.Kn

/- Lists of terms in form; how great what is reckoned is: plain mathematics. -/
namespace Go.Proofs.Ytlicglicfijelaa.Kn

def lt2 (a b : E2) : Prop := a.1 < b.1 ∨ (a.1 = b.1 ∧ a.2 < b.2)
instance (a b : E2) : Decidable (lt2 a b) := inferInstanceAs (Decidable (_ ∨ _))
theorem lt2_irr (a : E2) : ¬ lt2 a a := by unfold lt2; omega
theorem lt2_trans {a b c : E2} (h : lt2 a b) (k : lt2 b c) : lt2 a c := by unfold lt2 at *; omega
theorem lt2_tri (a b : E2) : lt2 a b ∨ a = b ∨ lt2 b a := by
  unfold lt2
  by_cases h1 : a.1 = b.1
  · by_cases h2 : a.2 = b.2
    · exact .inr (.inl (Prod.ext h1 h2))
    · omega
  · omega
structure F2 (l : L2) : Prop where
  ord : l.Pairwise fun s t => lt2 s.1 t.1
  nz : ∀ t ∈ l, t.2 ≠ 0
theorem F2.nil : F2 [] := ⟨.nil, fun _ h => by cases h⟩
theorem F2.tail {t : E2 × Int} {l : L2} (h : F2 (t :: l)) : F2 l := ⟨(List.pairwise_cons.1 h.ord).2, fun s hs => h.nz s (by simp [hs])⟩
theorem cf_out {l : L2} {a : E2} (h : ∀ t ∈ l, t.1 ≠ a) : cf l a = 0 := by
  induction l with
  | nil => rfl
  | cons t l ih => rw [cf_cons, if_neg (h t (by simp)), ih fun s hs => h s (by simp [hs])]; rfl
theorem F2.low {t : E2 × Int} {l : L2} (h : F2 (t :: l)) {a : E2} (ha : lt2 a t.1) : cf (t :: l) a = 0 := by
  refine cf_out fun s hs e => ?_
  rcases List.mem_cons.1 hs with rfl | hs
  · rw [e] at ha; exact lt2_irr _ ha
  · have := (List.pairwise_cons.1 h.ord).1 s hs
    rw [e] at this
    exact lt2_irr _ (lt2_trans ha this)
theorem F2.head {t : E2 × Int} {l : L2} (h : F2 (t :: l)) : cf (t :: l) t.1 = t.2 := by
  rw [cf_cons, if_pos rfl, cf_out fun s hs e => ?_]
  · omega
  · have := (List.pairwise_cons.1 h.ord).1 s hs
    rw [e] at this
    exact lt2_irr _ this
theorem F2.uniq : ∀ {l m : L2}, F2 l → F2 m → (∀ a, cf l a = cf m a) → l = m
  | [], [], _, _, _ => rfl
  | [], t :: m, _, hm, e => by
    have := e t.1
    rw [hm.head] at this
    exact absurd this.symm (hm.nz t (by simp))
  | t :: l, [], hl, _, e => by
    have := e t.1
    rw [hl.head] at this
    exact absurd this (hl.nz t (by simp))
  | t :: l, s :: m, hl, hm, e => by
    have e1 : t.1 = s.1 := by
      rcases lt2_tri t.1 s.1 with c | c | c
      · have := e t.1
        rw [hl.head, hm.low c] at this
        exact absurd this (hl.nz t (by simp))
      · exact c
      · have := e s.1
        rw [hm.head, hl.low c] at this
        exact absurd this.symm (hm.nz s (by simp))
    have e2 : t.2 = s.2 := by
      have := e t.1
      rw [hl.head, e1, hm.head] at this
      exact this
    have e3 : t = s := Prod.ext e1 e2
    subst e3
    rw [F2.uniq hl.tail hm.tail fun a => by
      have := e a
      rw [cf_cons, cf_cons] at this
      omega]
/- a term put into a list in form -/
def insT : L2 → E2 × Int → L2
  | [], t => if t.2 ≠ 0 then [t] else []
  | o :: os, t => if lt2 o.1 t.1 then o :: insT os t else if o.1 = t.1 then (if t.2 + o.2 ≠ 0 then (t.1, t.2 + o.2) :: os else os) else if t.2 ≠ 0 then t :: o :: os else o :: os
theorem insT_cf (t : E2 × Int) (a : E2) : ∀ l : L2, cf (insT l t) a = cf l a + if t.1 = a then t.2 else 0
  | [] => by
    unfold insT
    by_cases c : t.2 ≠ 0
    · rw [if_pos c, cf_cons]; omega
    · rw [if_neg c]
      have : t.2 = 0 := by omega
      rw [this]; simp
  | o :: os => by
    rw [insT]
    by_cases c1 : lt2 o.1 t.1
    · rw [if_pos c1, cf_cons, cf_cons, insT_cf t a os]; omega
    · rw [if_neg c1]
      by_cases c2 : o.1 = t.1
      · rw [if_pos c2]
        by_cases c3 : t.2 + o.2 ≠ 0
        · rw [if_pos c3, cf_cons, cf_cons, c2]
          split <;> omega
        · rw [if_neg c3, cf_cons, c2]
          split <;> omega
      · rw [if_neg c2]
        by_cases c3 : t.2 ≠ 0
        · rw [if_pos c3, cf_cons t]; omega
        · rw [if_neg c3]
          have : t.2 = 0 := by omega
          rw [this]; simp
theorem insT_mem {t s : E2 × Int} : ∀ {l : L2}, s ∈ insT l t → s.1 = t.1 ∨ s ∈ l
  | [], h => by
    unfold insT at h
    split at h
    · rw [List.mem_singleton] at h; exact .inl (by rw [h])
    · cases h
  | o :: os, h => by
    rw [insT] at h
    split at h
    · rcases List.mem_cons.1 h with rfl | h
      · exact .inr (by simp)
      · exact (insT_mem h).imp id fun k => by simp [k]
    · split at h
      · split at h
        · rcases List.mem_cons.1 h with rfl | h
          · exact .inl rfl
          · exact .inr (by simp [h])
        · exact .inr (by simp [h])
      · split at h
        · rcases List.mem_cons.1 h with rfl | h
          · exact .inl rfl
          · exact .inr h
        · exact .inr h
theorem insT_F2 (t : E2 × Int) : ∀ {l : L2}, F2 l → F2 (insT l t)
  | [], _ => by
    unfold insT
    split
    · next c => exact ⟨by simp, fun s hs => by rw [List.mem_singleton] at hs; subst hs; exact c⟩
    · exact F2.nil
  | o :: os, h => by
    rw [insT]
    have ho := List.pairwise_cons.1 h.ord
    by_cases c1 : lt2 o.1 t.1
    · rw [if_pos c1]
      have i := insT_F2 t h.tail
      refine ⟨List.pairwise_cons.2 ⟨fun s hs => ?_, i.ord⟩, fun s hs => ?_⟩
      · rcases insT_mem hs with k | k
        · rw [k]; exact c1
        · exact ho.1 s k
      · rcases List.mem_cons.1 hs with rfl | hs
        · exact h.nz _ (by simp)
        · exact i.nz s hs
    · rw [if_neg c1]
      by_cases c2 : o.1 = t.1
      · rw [if_pos c2]
        by_cases c3 : t.2 + o.2 ≠ 0
        · rw [if_pos c3]
          refine ⟨List.pairwise_cons.2 ⟨fun s hs => ?_, ho.2⟩, fun s hs => ?_⟩
          · show lt2 t.1 s.1
            rw [← c2]; exact ho.1 s hs
          · rcases List.mem_cons.1 hs with rfl | hs
            · exact c3
            · exact h.nz s (by simp [hs])
        · rw [if_neg c3]; exact h.tail
      · rw [if_neg c2]
        have c4 : lt2 t.1 o.1 := by
          rcases lt2_tri o.1 t.1 with k | k | k
          · exact absurd k c1
          · exact absurd k c2
          · exact k
        by_cases c3 : t.2 ≠ 0
        · rw [if_pos c3]
          refine ⟨List.pairwise_cons.2 ⟨fun s hs => ?_, h.ord⟩, fun s hs => ?_⟩
          · rcases List.mem_cons.1 hs with rfl | hs
            · exact c4
            · exact lt2_trans c4 (ho.1 s hs)
          · rcases List.mem_cons.1 hs with rfl | hs
            · exact c3
            · exact h.nz s hs
        · rw [if_neg c3]; exact h
/- terms of a list, moved and multiplied, into another one -/
def sumT (l more : L2) (d : E2) (c : Int) : L2 := more.foldl (fun l t => insT l (t.1 + d, t.2 * c)) l
theorem sumT_cons (l : L2) (t : E2 × Int) (more : L2) (d : E2) (c : Int) : sumT l (t :: more) d c = sumT (insT l (t.1 + d, t.2 * c)) more d c := rfl
theorem sumT_cf (d : E2) (c : Int) (a : E2) : ∀ (more l : L2), cf (sumT l more d c) a = cf l a + c * cf more (a - d)
  | [], l => by
    show cf l a = cf l a + c * cf [] _
    have : cf [] (a - d) = 0 := rfl
    rw [this]; simp
  | t :: more, l => by
    rw [sumT_cons, sumT_cf d c a more, insT_cf, cf_cons, Int.mul_add]
    have h := dl_shift a t.1 d
    unfold dl at h
    show cf l a + (if t.1 + d = a then t.2 * c else 0) + _ = _
    by_cases k : t.1 + d = a
    · rw [if_pos k] at h ⊢
      by_cases k' : t.1 = a - d
      · rw [if_pos k', Int.mul_comm]; omega
      · rw [if_neg k'] at h; omega
    · rw [if_neg k] at h ⊢
      by_cases k' : t.1 = a - d
      · rw [if_pos k'] at h; omega
      · rw [if_neg k']; omega
theorem sumT_F2 (d : E2) (c : Int) : ∀ (more : L2) {l : L2}, F2 l → F2 (sumT l more d c)
  | [], _, h => h
  | t :: more, l, h => by
    rw [sumT_cons]
    exact sumT_F2 d c more (insT_F2 _ h)
/- how great -/
def szL (l : L2) : Nat := (l.map fun t => t.2.natAbs).sum
theorem szL_cons (t : E2 × Int) (l : L2) : szL (t :: l) = t.2.natAbs + szL l := by unfold szL; simp
theorem szL_app (l m : L2) : szL (l ++ m) = szL l + szL m := by unfold szL; simp
theorem szL_sl (d : E2) {k : Int} (hk : k.natAbs = 1) (l : L2) : szL (sl d k l) = szL l := by
  induction l with
  | nil => rfl
  | cons t l ih =>
    have e : sl d k (t :: l) = (t.1 + d, k * t.2) :: sl d k l := rfl
    rw [e, szL_cons, szL_cons, ih]
    show (k * t.2).natAbs + _ = _
    rw [Int.natAbs_mul, hk, Nat.one_mul]
theorem cf_sz (a : E2) : ∀ l : L2, (cf l a).natAbs ≤ szL l
  | [] => by simp [cf, tt_nil]
  | t :: l => by
    rw [cf_cons, szL_cons]
    have := cf_sz a l
    split <;> omega
def exB (R : Nat) (l : L2) : Prop := ∀ t ∈ l, t.1.1.natAbs ≤ R ∧ t.1.2.natAbs ≤ R
theorem exB.app {R : Nat} {l m : L2} (h : exB R l) (k : exB R m) : exB R (l ++ m) := fun t ht => (List.mem_append.1 ht).elim (h t) (k t)
theorem exB.mono {R R' : Nat} {l : L2} (h : exB R l) (k : R ≤ R') : exB R' l := fun t ht => by have := h t ht; omega
theorem exB.sl {R m : Nat} {l : L2} (h : exB R l) {d : E2} (hd : d.1.natAbs ≤ m ∧ d.2.natAbs ≤ m) (k : Int) : exB (R + m) (sl d k l) := fun t ht => by
  unfold Kn.sl at ht
  obtain ⟨s, hs, rfl⟩ := List.mem_map.1 ht
  have := h s hs
  show (s.1.1 + d.1).natAbs ≤ R + m ∧ (s.1.2 + d.2).natAbs ≤ R + m
  omega
theorem rgL_sz (n : Nat) : ∀ j, szL (rgL n j) = 2 ^ j
  | 0 => rfl
  | j + 1 => by rw [rgL, szL_app, szL_sl _ rfl, szL_sl _ rfl, rgL_sz n j, Nat.pow_succ]; omega
theorem rgL_ex (n : Nat) : ∀ j, exB (n + j + 1) (rgL n j)
  | 0 => fun t ht => by
    have : t = ((0, 1 - (n : Int)), 1) := by simpa [rgL] using ht
    subst this
    refine ⟨by simp, ?_⟩
    show (1 - (n : Int)).natAbs ≤ n + 0 + 1
    omega
  | j + 1 => by
    rw [rgL]
    have h := rgL_ex n j
    exact ((h.sl (d := (1, 0)) (m := 1) ⟨by decide, by decide⟩ 1).app (h.sl (d := (-1, 0)) (m := 1) ⟨by decide, by decide⟩ (-1))).mono (by omega)
theorem cmb_sz (p : Bool) (u v : L2) : szL (cmb p u v) = szL u + szL v := by
  unfold cmb
  cases p
  · show szL (sl (2, 0) 1 u ++ sl (1, 1) (-1) v) = _
    rw [szL_app, szL_sl _ rfl, szL_sl _ rfl]
  · show szL (sl (-2, 0) 1 u ++ sl (-1, 1) 1 v) = _
    rw [szL_app, szL_sl _ rfl, szL_sl _ rfl]
theorem cmb_ex {R : Nat} (p : Bool) {u v : L2} (hu : exB R u) (hv : exB R v) : exB (R + 2) (cmb p u v) := by
  unfold cmb
  cases p
  · exact (hu.sl (d := (2, 0)) (m := 2) ⟨by decide, by decide⟩ 1).app (hv.sl (d := (1, 1)) (m := 2) ⟨by decide, by decide⟩ (-1))
  · exact (hu.sl (d := (-2, 0)) (m := 2) ⟨by decide, by decide⟩ 1).app (hv.sl (d := (-1, 1)) (m := 2) ⟨by decide, by decide⟩ 1)
def sN : Nat → Nat
  | 0 => 1
  | n + 1 => 1 + (n + 1) * sN n
def lv (n b : Nat) : Nat := 1 + b * sN (n - 1)
theorem lv_le {n b : Nat} (h : b ≤ n) : lv n b ≤ sN n := by
  unfold lv
  cases n with
  | zero =>
    have : b = 0 := by omega
    subst this
    simp [sN]
  | succ m =>
    show 1 + b * sN m ≤ 1 + (m + 1) * sN m
    have := Nat.mul_le_mul_right (sN m) h
    omega
theorem ofL_sz : ∀ (f : Nat) {X : List Cr} (_ : Ok X) (L : Nat), szL (ofL f X L) ≤ lv X.length (bX X) * 2 ^ ((strandsL X).length + L + X.length) ∧ exB (2 * ((strandsL X).length + L + X.length) + 2 * f + 2) (ofL f X L)
  | 0, _, _, _ => ⟨Nat.zero_le _, fun t ht => by cases ht⟩
  | f + 1, X, h, L => by
    unfold ofL
    cases c : lowX X with
    | none =>
      constructor
      · show szL (rgL _ _) ≤ _
        rw [rgL_sz]
        have h1 : 2 ^ ((strandsL X).length + L - 1) ≤ 2 ^ ((strandsL X).length + L + X.length) := Nat.pow_le_pow_right (by omega) (by omega)
        have h2 : 1 ≤ lv X.length (bX X) := by unfold lv; omega
        have h3 := Nat.mul_le_mul_right (2 ^ ((strandsL X).length + L + X.length)) h2
        omega
      · exact (rgL_ex _ _).mono (by omega)
    | some k =>
      obtain ⟨k1, k2⟩ := h.low_lt c
      have hb := h.bX_chg c
      have hs := h.strands_chg k1
      have hl : (chgL X k).length = X.length := by simp [chgL]
      have hs2 := smL_len k1
      have hb2 := (h.smooth_ok k1).bX_le
      have hk2 := (h.k_smooth k1 L).2
      obtain ⟨i1, j1⟩ := ofL_sz f (h.chg_ok k1) L
      obtain ⟨i2, j2⟩ := ofL_sz f (h.smooth_ok k1) (L + smN X k)
      rw [hs, hl] at i1 j1
      constructor
      · show szL (cmb _ _ _) ≤ _
        rw [cmb_sz]
        have h1 : 2 ^ ((strandsL (smL X k)).length + (L + smN X k) + (smL X k).length) ≤ 2 ^ ((strandsL X).length + L + X.length) := Nat.pow_le_pow_right (by omega) (by omega)
        have h2 := lv_le hb2
        have h3 := Nat.mul_le_mul h2 h1
        have h4 : lv X.length (bX X) = lv X.length (bX (chgL X k)) + sN (smL X k).length := by
          unfold lv
          rw [← hb, Nat.add_mul, Nat.one_mul, show X.length - 1 = (smL X k).length by omega]; omega
        rw [h4, Nat.add_mul]
        omega
      · exact (cmb_ex _ (j1.mono (R' := 2 * ((strandsL X).length + L + X.length) + 2 * f + 2) (by omega)) (j2.mono (by omega))).mono (by omega)
/- of a list in form: its terms lie where those of another with the same numbers lie -/
theorem F2.sz {l m : L2} (h : F2 l) (e : ∀ a, cf l a = cf m a) : szL l ≤ szL m := by
  have key : ∀ (n : Nat) (l m : L2), l.length = n → F2 l → (∀ a, (∃ t ∈ l, t.1 = a) → cf l a = cf m a) → szL l ≤ szL m := by
    intro n
    induction n with
    | zero =>
      intro l m hn _ _
      cases l with
      | nil => exact Nat.zero_le _
      | cons t l => simp at hn
    | succ n ih =>
      intro l m hn hf he
      cases l with
      | nil => simp at hn
      | cons t l =>
        have h1 := he t.1 ⟨t, by simp, rfl⟩
        rw [hf.head] at h1
        have h2 := ih l (m.filter fun s => !decide (s.1 = t.1)) (by simpa using hn) hf.tail fun a ⟨s, hs, ea⟩ => by
          have hne : t.1 ≠ a := fun k => by
            have := (List.pairwise_cons.1 hf.ord).1 s hs
            rw [ea, ← k] at this
            exact lt2_irr _ this
          rw [cf_filter, if_neg fun k => hne k.symm, ← he a ⟨s, by simp [hs], ea⟩, cf_cons, if_neg hne]; omega
        rw [szL_cons]
        have h3 : ∀ m : L2, (cf m t.1).natAbs + szL (m.filter fun s => !decide (s.1 = t.1)) ≤ szL m := by
          intro m
          induction m with
          | nil => simp [cf, tt_nil, szL]
          | cons s m ihm =>
            rw [cf_cons, szL_cons]
            by_cases c : s.1 = t.1
            · rw [if_pos c, List.filter_cons_of_neg (by simp [c])]; omega
            · rw [if_neg c, List.filter_cons_of_pos (by simp [c]), szL_cons]; omega
        have := h3 m
        rw [← h1] at this
        omega
  exact key _ l m rfl h fun a _ => e a
theorem F2.ex {R : Nat} {l m : L2} (h : F2 l) (e : ∀ a, cf l a = cf m a) (k : exB R m) : exB R l := fun t ht => by
  have h1 : cf l t.1 ≠ 0 := by
    have gen : ∀ l : L2, F2 l → ∀ t ∈ l, cf l t.1 = t.2 := by
      intro l
      induction l with
      | nil => intro _ t ht; cases ht
      | cons s l ih =>
        intro hf t ht
        rcases List.mem_cons.1 ht with rfl | ht
        · exact hf.head
        · rw [cf_cons, if_neg fun q => ?_, ih hf.tail t ht]
          · omega
          · have := (List.pairwise_cons.1 hf.ord).1 t ht
            rw [q] at this
            exact lt2_irr _ this
    rw [gen l h t ht]
    exact h.nz t ht
  rw [e] at h1
  refine Classical.byContradiction fun c => h1 (cf_out fun s hs q => c ?_)
  rw [← q]; exact k s hs
end Go.Proofs.Ytlicglicfijelaa.Kn
