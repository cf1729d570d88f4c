/- Plain mathematics of diagrams, joined. -/
import Derived.Test.YtdelekkbkpldjaaDoorMAllb
/- Faces and pieces counted by labels: a diagram is planar where it has faces enough: plain mathematics. -/
namespace Go.Proofs.YtdelekkbkpldjaaDoor.Kn

/- each class by a label of its own -/
theorem labels {N : Nat} {R : Nat → Nat → Prop} (hR : Equivalence R) : ∃ (lab : Nat → Nat) (vs : List Nat), (∀ x y, R x y → lab x = lab y) ∧ (∀ x, R (lab x) x) ∧ (∀ x, lab x ≤ x) ∧ vs.Nodup ∧ vs.length = cl N R ∧ ∀ v, v ∈ vs ↔ v < N ∧ lab v = v := by
  obtain ⟨lab, hl⟩ := Classical.axiomOfChoice (least_of hR)
  refine ⟨lab, (List.range N).filter fun d => tr (Least R d), fun x y h => ?_, fun x => (hl x).2.1, fun x => (hl x).1, ?_, ?_, fun v => ?_⟩
  · exact least_eq hR (hl x).2.2 (hl y).2.2 (hR.trans (hl x).2.1 (hR.trans h (hR.symm (hl y).2.1)))
  · exact List.nodup_range.sublist List.filter_sublist
  · unfold cl; rw [List.countP_eq_length_filter]
  · rw [List.mem_filter, List.mem_range, tr_iff]
    constructor
    · rintro ⟨h1, h2⟩; exact ⟨h1, least_eq hR (hl v).2.2 h2 (hl v).2.1⟩
    · rintro ⟨h1, h2⟩
      have := (hl v).2.2
      rw [h2] at this
      exact ⟨h1, this⟩
/- as many classes as there are values of what is the same on each -/
theorem cl_ge {N : Nat} {R : Nat → Nat → Prop} (hR : Equivalence R) {g : Nat → Nat} (hg : ∀ x y, x < N → R x y → g x = g y) {vs : List Nat} (hn : vs.Nodup) (hv : ∀ v ∈ vs, ∃ x, x < N ∧ g x = v) : vs.length ≤ cl N R := by
  obtain ⟨lab, us, h1, h2, h3, h4, h5, h6⟩ := labels (N := N) hR
  have := nodup_le (m := us.map g) hn fun v hv' => by
    obtain ⟨x, hx, rfl⟩ := hv v hv'
    have hl : lab x < N := by have := h3 x; omega
    exact List.mem_map.2 ⟨lab x, (h6 _).2 ⟨hl, h1 _ _ (h2 x)⟩, hg _ _ hl (h2 x)⟩
  rw [List.length_map, h5] at this
  exact this
/- no more classes than those that come over, and some more -/
theorem cl_le {N M : Nat} {R R' : Nat → Nat → Prop} (hR : Equivalence R) (hR' : Equivalence R') {f : Nat → Nat} (hf : ∀ x y, x < N → y < N → R x y → R' (f x) (f y)) {es : List Nat} (hc : ∀ z, z < M → (∃ x, x < N ∧ R' (f x) z) ∨ ∃ e ∈ es, R' e z) : cl M R' ≤ cl N R + es.length := by
  obtain ⟨lab, us, h1, h2, h3, h4, h5, h6⟩ := labels (N := N) hR
  obtain ⟨lab', us', k1, k2, k3, k4, k5, k6⟩ := labels (N := M) hR'
  have := nodup_le (m := us.map (fun u => lab' (f u)) ++ es.map lab') k4 fun v hv => by
    obtain ⟨v1, v2⟩ := (k6 v).1 hv
    rw [List.mem_append]
    rcases hc v v1 with ⟨x, hx, e⟩ | ⟨e, he, k⟩
    · have hl : lab x < N := by have := h3 x; omega
      refine .inl (List.mem_map.2 ⟨lab x, (h6 _).2 ⟨hl, h1 _ _ (h2 x)⟩, ?_⟩)
      rw [← v2]
      exact k1 _ _ (hR'.trans (hf _ _ hl hx (h2 x)) e)
    · refine .inr (List.mem_map.2 ⟨e, he, ?_⟩)
      rw [← v2]
      exact k1 _ _ k
  rw [List.length_append, List.length_map, List.length_map, h5, k5] at this
  exact this

/- the place behind a place, round its crossing -/
def up (p : Pl) : Pl := (p.1, (p.2 + 1) % 4)
section
variable {X Y : List Cr}
theorem isPl_up {p : Pl} (hp : isPl X p) : isPl X (up p) := isPl_turn hp 1
theorem Ok.fac_up (h : Ok X) {p : Pl} (hp : isPl X p) : fac X (pk (up p)) = pk (other X p) := by
  rw [h.fac_pk (isPl_up hp)]
  have : ((up p).1, ((up p).2 + 3) % 4) = p := Prod.ext rfl (by have := hp.2; unfold up; simp only; omega)
  rw [this]
theorem Ok.fac_all (h : Ok X) {x : Nat} (hx : x < 4 * X.length) : ∃ p, isPl X p ∧ x = pk (up p) := by
  refine ⟨(x / 4, (x % 4 + 3) % 4), ⟨by show x / 4 < _; omega, Nat.mod_lt _ (by omega)⟩, ?_⟩
  unfold pk up; simp only; omega
/- as many faces as there are values of what is the same all along a face -/
theorem Ok.faces_ge (h : Ok Y) {L : Pl → Nat} (hL : ∀ p, isPl Y p → L (Kn.other Y p) = L (up p)) {vs : List Nat} (hn : vs.Nodup) (hv : ∀ v ∈ vs, ∃ p, isPl Y p ∧ L p = v) : vs.length ≤ (facesL Y).length := by
  rw [← h.cl_faces]
  refine cl_ge h.fac_pm.equiv (g := fun k => L (pl k)) (fun x y hx k => ?_) hn fun v hv' => ?_
  · have := k.ind (P := fun y => y < 4 * Y.length ∧ L (pl x) = L (pl y)) (fun z hz => ⟨h.fac_pm.lt z hz.1, ?_⟩) ⟨hx, rfl⟩
    · exact this.2
    · obtain ⟨p, hp, rfl⟩ := h.fac_all hz.1
      rw [h.fac_up hp, pl_pk (h.isPl_other hp).2, hL p hp, hz.2, pl_pk (isPl_up hp).2]
  · obtain ⟨p, hp, e⟩ := hv v hv'
    exact ⟨pk p, pk_lt hp, by show L (pl (pk p)) = v; rw [pl_pk hp.2]; exact e⟩
/- places that are connected -/
def Ln (X : List Cr) (p q : Pl) : Prop := pie X (pk p) (pk q)
theorem Ln.refl (p : Pl) : Ln X p p := (com_equiv (sig_pm X.length) (ens X)).refl _
theorem Ln.symm {p q : Pl} (h : Ln X p q) : Ln X q p := (com_equiv (sig_pm X.length) (ens X)).symm h
theorem Ln.trans {p q r : Pl} (h : Ln X p q) (k : Ln X q r) : Ln X p r := (com_equiv (sig_pm X.length) (ens X)).trans h k
theorem Ln.round {p q : Pl} (hp : isPl X p) (hq : q.2 < 4) (e : p.1 = q.1) : Ln X p q :=
  com_sub ((sig_orb (pk_lt hp)).2 (by rw [pk_div hp.2, pk_div hq, e]))
theorem Ok.ln_other (h : Ok X) {p : Pl} (hp : isPl X p) : Ln X p (Kn.other X p) := by
  obtain ⟨e, he, k⟩ := h.mem_ens hp
  have := com_pair (sig_pm X.length) he
  unfold Ln
  rcases k with ⟨k1, k2⟩ | ⟨k1, k2⟩
  · rw [k1, k2]; exact this
  · rw [k1, k2]; exact (com_equiv (sig_pm X.length) (ens X)).symm this
/- what may be: numbers in range, each one there as an end that comes in and as one that goes out -/
theorem ok_all (h1 : ∀ p, isPl Y p → 1 ≤ at_ Y p ∧ at_ Y p ≤ (nArcs Y : Int)) (h2 : ∀ (io : Bool) (a : Nat), Kn.isArc Y a → ∃ p, isPl Y p ∧ cm Y p = io ∧ at_ Y p = a) : Ok Y := by
  refine ok_mk h1 h2 ?_
  have h3 : ∀ x : Nat, ∃ q : Nat, x < 4 * Y.length → ∃ p, isPl Y p ∧ cm Y p = decide (x % 2 = 0) ∧ at_ Y p = ((x / 2 + 1 : Nat) : Int) ∧ pk p = q := fun x => by
    by_cases c : x < 4 * Y.length
    · obtain ⟨p, hp, e1, e2⟩ := h2 (decide (x % 2 = 0)) (x / 2 + 1) ⟨by omega, by unfold nArcs; omega⟩
      exact ⟨pk p, fun _ => ⟨p, hp, e1, e2, rfl⟩⟩
    · exact ⟨0, fun k => absurd k c⟩
  obtain ⟨g, hg⟩ := Classical.axiomOfChoice h3
  have hperm : ((List.range (4 * Y.length)).map g).Perm (List.range (4 * Y.length)) := by
    refine perm_of_sub (map_nodup List.nodup_range fun x hx y hy e => ?_) List.nodup_range (fun z hz => ?_) (by simp)
    · obtain ⟨p, p1, p2, p3, p4⟩ := hg x (List.mem_range.1 hx)
      obtain ⟨q, q1, q2, q3, q4⟩ := hg y (List.mem_range.1 hy)
      have : p = q := pk_inj p1.2 q1.2 (by rw [p4, q4, e])
      subst this
      rw [p2, decide_eq_decide] at q2
      omega
    · obtain ⟨x, hx, rfl⟩ := List.mem_map.1 hz
      obtain ⟨p, p1, _, _, p4⟩ := hg x (List.mem_range.1 hx)
      rw [← p4]
      exact List.mem_range.2 (pk_lt p1)
  have key : ∀ p, isPl Y p → g (2 * ((at_ Y p).toNat - 1) + if cm Y p then 0 else 1) = pk p := fun p hp => by
    obtain ⟨x, hx, e⟩ := List.mem_map.1 (hperm.mem_iff.2 (List.mem_range.2 (pk_lt hp)))
    obtain ⟨q, q1, q2, q3, q4⟩ := hg x (List.mem_range.1 hx)
    have : q = p := pk_inj q1.2 hp.2 (by rw [q4, e])
    subst this
    rw [q2, q3, ← e]
    congr 1
    by_cases c : x % 2 = 0
    · simp [c]; omega
    · simp [c]; omega
  intro p q hp hq hc ha
  exact pk_inj hp.2 hq.2 (by rw [← key p hp, ← key q hq, hc, ha])
/- the other end of an arc, where it lies -/
theorem Ok.other_of (h : Ok Y) {p q : Pl} (hp : isPl Y p) (hq : isPl Y q) (hc : cm Y q = !cm Y p) (ha : at_ Y q = at_ Y p) : Kn.other Y p = q := by
  refine h.uniq _ _ (h.isPl_other hp) hq (by rw [h.cm_other hp, hc]) ?_
  rw [← h.arcN_eq (h.isPl_other hp), h.arc_other hp, h.arcN_eq hp, ha]
end
end Go.Proofs.YtdelekkbkpldjaaDoor.Kn

/- Closed words, plain: what Close reckons is a numbering of all passes along the strands. -/
namespace Go.Proofs.YtdelekkbkpldjaaDoor.Kn
set_option linter.unusedVariables false

/-- Passes one behind another. -/
def Chn (w : List Int) : Nat × Nat → List (Nat × Nat) → Nat × Nat → Prop
  | x, [], y => x = y
  | x, z :: S, y => z = x ∧ Chn w (npT w x) S y
theorem Chn.push {w : List Int} : ∀ {S : List (Nat × Nat)} {x y : Nat × Nat}, Chn w x S y → Chn w x (S ++ [y]) (npT w y)
  | [], x, y, h => by
    have : x = y := h
    subst this
    exact ⟨rfl, rfl⟩
  | z :: S, x, y, h => ⟨h.1, Chn.push h.2⟩
theorem Chn.next {w : List Int} : ∀ {S : List (Nat × Nat)} {x y : Nat × Nat}, Chn w x S y → ∀ j (h : j < S.length), (if h' : j + 1 < S.length then S[j + 1] else y) = npT w S[j]
  | z :: S, x, y, h, 0, _ => by
    obtain ⟨rfl, h2⟩ := h
    cases S with
    | nil => simpa [Chn] using h2.symm
    | cons u S => simpa using h2.1
  | z :: S, x, y, h, j + 1, hj => by
    have := Chn.next h.2 j (by simpa using hj)
    simpa using this
theorem Chn.first {w : List Int} {S : List (Nat × Nat)} {x y : Nat × Nat} (h : Chn w x S y) (h0 : 0 < S.length) : S[0] = x := by
  cases S with
  | nil => simp at h0
  | cons z S => exact h.1

abbrev permW (w : List Int) (q : Nat) : Nat := plW w w.length q
/-- A strand under way: at a level, in the round that began at the place q0. -/
structure PI (w : List Int) (W : Nat → Prop) (p0 q0 k : Nat) (S0 : List (Nat × Nat)) (O0 : List Nat) (s : CS) (S1 : List (Nat × Nat)) : Prop where
  at_ : s.at_ = plW w k q0 + 1
  inv : InvC w s.A s.nx (S0 ++ S1) (O0 ++ (List.range S1.length).map fun j => S0.length + j + 2)
  mem : ∀ x, x ∈ S0 ++ S1 ↔ TchX w x ∧ ((∃ q, W q ∧ x.2 = plW w x.1 q) ∨ (x.1 < k ∧ x.2 = plW w x.1 q0))
  chn : Chn w (nxT w 0 p0, p0) S1 (nxT w k (plW w k q0), plW w k q0)
  la : s.la = S1.getLast?.map fun x => cellT w x + 1
theorem getD_mem0 {w : List Int} {k : Nat} (h : k < w.length) : w.getD k 0 ∈ w := by
  rw [List.getD_eq_getElem?_getD, List.getElem?_eq_getElem h]; exact List.getElem_mem h
theorem LetsM.iw {n : Nat} {w : List Int} (hw : LetsM n w) {k : Nat} (h : k < w.length) : (w.getD k 0).natAbs = iw w k + 1 ∧ iw w k + 1 < n := by
  have ha := hw _ (getD_mem0 h)
  have h0 := ha.ne
  have h1 := ha.lt
  unfold Kn.iw; omega
theorem PI.step {n : Nat} {w : List Int} (hw : LetsM n w) {W : Nat → Prop} {p0 q0 k : Nat} {S0 : List (Nat × Nat)} {O0 : List Nat} {s : CS} {S1 : List (Nat × Nat)} (hk : k < w.length) (hq : ¬ W q0) (h : PI w W p0 q0 k S0 O0 s S1) :
    ∃ S2, PI w W p0 q0 (k + 1) S0 O0 (stepC k (w.getD k 0) s) S2 := by
  obtain ⟨ea, el⟩ := hw.iw hk
  have hat := h.at_
  have hx0 : ∀ hx : Tch w k (plW w k q0), (k, plW w k q0) ∉ S0 ++ S1 := fun hx hm => by
    rcases ((h.mem _).1 hm).2 with ⟨q, h1, h2⟩ | ⟨h1, h2⟩
    · exact hq (plW_inj h2 ▸ h1)
    · exact absurd h1 (Nat.lt_irrefl _)
  have key : ∀ hx : Tch w k (plW w k q0), ∀ (s' : CS), s'.at_ = opT w k (plW w k q0) + 1 → s'.nx = s.nx + 1 → s'.A = (s.A.set (cellT w (k, plW w k q0)) s.nx).set (cellT w (k, plW w k q0) + 1) (s.nx + 1) → s'.la = some (cellT w (k, plW w k q0) + 1) → PI w W p0 q0 (k + 1) S0 O0 s' (S1 ++ [(k, plW w k q0)]) := by
    intro hx s' e1 e2 e3 e4
    have e5 : plW w (k + 1) q0 = opT w k (plW w k q0) := by
      show stP w k (plW w k q0) = _
      unfold stP; rw [if_pos hx]
    refine ⟨by rw [e1, e5], ?_, fun x => ?_, ?_, ?_⟩
    · have := h.inv.push (x := (k, plW w k q0)) hx (hx0 hx)
      rw [e2, e3]
      have hn := h.inv.nx
      rw [List.length_append] at hn
      rw [List.append_assoc, List.append_assoc] at this
      rw [List.length_append, List.length_singleton, List.range_succ, List.map_append, List.map_singleton]
      rw [show S0.length + S1.length + 2 = s.nx + 1 by omega]
      exact this
    · rw [← List.append_assoc, List.mem_append, h.mem, List.mem_singleton]
      constructor
      · rintro (⟨h1, h2 | ⟨h2, h3⟩⟩ | rfl)
        · exact ⟨h1, .inl h2⟩
        · exact ⟨h1, .inr ⟨by omega, h3⟩⟩
        · exact ⟨hx, .inr ⟨by simp, rfl⟩⟩
      · rintro ⟨h1, h2 | ⟨h2, h3⟩⟩
        · exact .inl ⟨h1, .inl h2⟩
        · by_cases c : x.1 = k
          · refine .inr (Prod.ext c ?_)
            rw [h3, c]
          · exact .inl ⟨h1, .inr ⟨by omega, h3⟩⟩
    · have := h.chn
      rw [nxT_touch hx] at this
      have h2 := this.push
      rw [e5]
      exact h2
    · rw [e4, List.getLast?_append]; simp
  unfold stepC
  by_cases c1 : s.at_ = (w.getD k 0).natAbs
  · rw [if_pos c1]
    have e : plW w k q0 = iw w k := by omega
    have hx : Tch w k (plW w k q0) := ⟨hk, .inl e⟩
    have ec : cellT w (k, plW w k q0) = 4 * k := by unfold cellT; simp only; omega
    refine ⟨_, key hx _ ?_ rfl ?_ ?_⟩
    · show (w.getD k 0).natAbs + 1 = _
      unfold opT
      rw [if_pos e]; omega
    · simp only [ec]
    · simp only [ec]
  · rw [if_neg c1]
    by_cases c2 : s.at_ = (w.getD k 0).natAbs + 1
    · rw [if_pos c2]
      have e : plW w k q0 = iw w k + 1 := by omega
      have hx : Tch w k (plW w k q0) := ⟨hk, .inr e⟩
      have ec : cellT w (k, plW w k q0) = 4 * k + 2 := by unfold cellT; simp only; omega
      refine ⟨_, key hx _ ?_ rfl ?_ ?_⟩
      · show (w.getD k 0).natAbs = _
        unfold opT
        rw [if_neg (by omega)]; omega
      · simp only [ec]
      · simp only [ec]
    · rw [if_neg c2]
      have hx : ¬ Tch w k (plW w k q0) := fun hx => by
        have := hx.2; omega
      have e5 : plW w (k + 1) q0 = plW w k q0 := by
        show stP w k (plW w k q0) = _
        unfold stP; rw [if_neg hx]
      refine ⟨S1, by rw [e5]; exact hat, h.inv, fun x => ?_, ?_, h.la⟩
      · rw [h.mem]
        constructor
        · rintro ⟨h1, h2 | ⟨h2, h3⟩⟩
          · exact ⟨h1, .inl h2⟩
          · exact ⟨h1, .inr ⟨by omega, h3⟩⟩
        · rintro ⟨h1, h2 | ⟨h2, h3⟩⟩
          · exact ⟨h1, .inl h2⟩
          · by_cases c : x.1 = k
            · rw [c] at h3
              have : Tch w k (plW w k q0) := by
                have h4 : Tch w x.1 x.2 := h1
                rw [c, h3] at h4; exact h4
              exact absurd this hx
            · exact ⟨h1, .inr ⟨by omega, h3⟩⟩
      · rw [e5, nxT_on hk hx]
        exact h.chn
theorem PI.pass {n : Nat} {w : List Int} (hw : LetsM n w) {W : Nat → Prop} {p0 q0 : Nat} {S0 : List (Nat × Nat)} {O0 : List Nat} {s : CS} {S1 : List (Nat × Nat)} (hq : ¬ W q0) (h : PI w W p0 q0 0 S0 O0 s S1) :
    ∀ k, k ≤ w.length → ∃ S2, PI w W p0 q0 k S0 O0 (passC w k s) S2
  | 0, _ => ⟨S1, h⟩
  | k + 1, hk => by
    obtain ⟨S2, h2⟩ := PI.pass hw hq h k (by omega)
    exact h2.step hw (by omega) hq
/-- Once round. -/
theorem PI.round {n : Nat} {w : List Int} (hw : LetsM n w) {W : Nat → Prop} {p0 q0 : Nat} {S0 : List (Nat × Nat)} {O0 : List Nat} {s : CS} {S1 : List (Nat × Nat)} (hq : ¬ W q0) (h : PI w W p0 q0 0 S0 O0 s S1) :
    ∃ S2, PI w (fun q => W q ∨ q = q0) p0 (permW w q0) 0 S0 O0 (passC w w.length s) S2 := by
  obtain ⟨S2, h2⟩ := h.pass hw hq w.length (Nat.le_refl _)
  refine ⟨S2, h2.at_, h2.inv, fun x => ?_, ?_, h2.la⟩
  · rw [h2.mem]
    constructor
    · rintro ⟨h1, ⟨q, h3, h4⟩ | ⟨h3, h4⟩⟩
      · exact ⟨h1, .inl ⟨q, .inl h3, h4⟩⟩
      · exact ⟨h1, .inl ⟨q0, .inr rfl, h4⟩⟩
    · rintro ⟨h1, ⟨q, h3 | rfl, h4⟩ | ⟨h3, _⟩⟩
      · exact ⟨h1, .inl ⟨q, h3, h4⟩⟩
      · exact ⟨h1, .inr ⟨h1.1, h4⟩⟩
      · omega
  · have := h2.chn
    rw [nxT_round] at this
    exact this
def Free (w : List Int) (p : Nat) : Prop := ∀ k, ¬ Tch w k p
theorem Free.pl {w : List Int} {p : Nat} (h : Free w p) : ∀ k, plW w k p = p
  | 0 => rfl
  | k + 1 => by
    show stP w k (plW w k p) = p
    rw [h.pl k]
    unfold stP
    rw [if_neg (h k)]
theorem permW_inj {w : List Int} {p q : Nat} (h : permW w p = permW w q) : p = q := plW_inj h
theorem it_succ' {α : Type} (f : α → α) (n : Nat) (x : α) : it f (n + 1) x = f (it f n x) := by
  have := it_add f n x 1
  rw [Nat.add_comm] at this
  exact this
theorem perm_it {n : Nat} {w : List Int} (hw : LetsM n w) {p : Nat} (hp : p < n) : ∀ j, it (permW w) j p < n
  | 0 => hp
  | j + 1 => by rw [it_succ']; exact plW_lt hw (perm_it hw hp j)
/-- A whole strand. -/
theorem strand_ok {n : Nat} {w : List Int} (hw : LetsM n w) {W0 : Nat → Prop} (hc : ∀ q, q < n → (W0 q ↔ W0 (permW w q))) {p0 : Nat} (hp : p0 < n) (h0 : ¬ W0 p0) {S0 : List (Nat × Nat)} {O0 : List Nat} :
    ∀ (f m : Nat) (Wl : List Bool) (s : CS) (S1 : List (Nat × Nat)), f + m = n + 1 → Wl.length = n + 1 → (∀ q, q < n → (Wl.getD (q + 1) false = true ↔ W0 q ∨ ∃ j, j < m ∧ q = it (permW w) j p0)) →
      (∀ i j, i < m → j < m → it (permW w) i p0 = it (permW w) j p0 → i = j) → (∀ j, j < m → ¬ W0 (it (permW w) j p0)) → PI w (fun q => W0 q ∨ ∃ j, j < m ∧ q = it (permW w) j p0) p0 (it (permW w) m p0) 0 S0 O0 s S1 →
      ∃ (Wl' : List Bool) (t : CS) (C : Nat → Prop) (S2 : List (Nat × Nat)), strandC w f Wl s = some (Wl', t) ∧ Wl'.length = n + 1 ∧ (∀ q, q < n → (Wl'.getD (q + 1) false = true ↔ W0 q ∨ C q)) ∧ C p0 ∧ (∀ q, C q → q < n) ∧ (∀ q, q < n → (C q ↔ C (permW w q))) ∧ (∀ q, C q → Free w q → q = p0) ∧
        PI w (fun q => W0 q ∨ C q) p0 p0 0 S0 O0 t S2
  | 0, m, Wl, s, S1, hf, hl, hW, hn, hC, h => by
    exfalso
    have := nodup_le (l := (List.range m).map fun j => it (permW w) j p0) (m := List.range n) (by
      rw [List.Nodup, List.pairwise_map]
      refine List.Pairwise.imp_of_mem (fun {a b} ha hb hne e => hne (hn a b (List.mem_range.1 ha) (List.mem_range.1 hb) e)) List.nodup_range) fun q hq => by
        obtain ⟨j, hj, rfl⟩ := List.mem_map.1 hq
        exact List.mem_range.2 (perm_it hw hp j)
    rw [List.length_map, List.length_range, List.length_range] at this
    omega
  | f + 1, m, Wl, s, S1, hf, hl, hW, hn, hC, h => by
    have hat : s.at_ = it (permW w) m p0 + 1 := h.at_
    have hcur := perm_it hw hp m
    unfold strandC
    rw [hat]
    by_cases c : Wl.getD (it (permW w) m p0 + 1) false = true
    · rw [if_pos c]
      have hcw := (hW _ hcur).1 c
      obtain ⟨m', rfl⟩ : ∃ m', m = m' + 1 := by
        cases m with
        | zero =>
          exfalso
          rcases hcw with hcw | ⟨j, hj, _⟩
          · exact h0 hcw
          · omega
        | succ m' => exact ⟨m', rfl⟩
      have es : it (permW w) (m' + 1) p0 = permW w (it (permW w) m' p0) := it_succ' _ _ _
      have e : it (permW w) (m' + 1) p0 = p0 := by
        rcases hcw with hcw | ⟨j, hj, e⟩
        · rw [es] at hcw
          exact absurd ((hc _ (perm_it hw hp m')).2 hcw) (hC m' (by omega))
        · cases j with
          | zero => exact e
          | succ j =>
            rw [es, it_succ'] at e
            have := hn _ _ (by omega) (by omega) (permW_inj e)
            omega
      refine ⟨Wl, s, fun q => ∃ j, j < m' + 1 ∧ q = it (permW w) j p0, S1, rfl, hl, hW, ⟨0, by omega, rfl⟩, ?_, fun q hq => ⟨?_, ?_⟩, ?_, ?_⟩
      · rintro q ⟨j, _, rfl⟩; exact perm_it hw hp j
      · rintro ⟨j, hj, rfl⟩
        by_cases c : j = m'
        · subst c
          exact ⟨0, by omega, by rw [← es, e]; rfl⟩
        · exact ⟨j + 1, by omega, (it_succ' _ _ _).symm⟩
      · rintro ⟨j, hj, k⟩
        cases j with
        | zero =>
          have k' : permW w q = permW w (it (permW w) m' p0) := by rw [← es, e]; exact k
          exact ⟨m', by omega, permW_inj k'⟩
        | succ j =>
          rw [it_succ'] at k
          exact ⟨j, by omega, permW_inj k⟩
      · rintro q ⟨j, hj, rfl⟩ hfr
        cases j with
        | zero => rfl
        | succ j =>
          exfalso
          have h1 : permW w (it (permW w) (j + 1) p0) = it (permW w) (j + 1) p0 := hfr.pl _
          rw [it_succ' (permW w) j] at h1
          have := hn j (j + 1) (by omega) hj (by rw [it_succ']; exact (permW_inj h1).symm)
          omega
      · rw [e] at h; exact h
    · rw [if_neg c]
      have hncw : ¬ (W0 (it (permW w) m p0) ∨ ∃ j, j < m ∧ it (permW w) m p0 = it (permW w) j p0) := fun k => c ((hW _ hcur).2 k)
      obtain ⟨S2, h2⟩ := h.round hw hncw
      refine strand_ok hw hc hp h0 f (m + 1) _ _ S2 (by omega) (by simpa using hl) (fun q hq => ?_) (fun i j hi hj e => ?_) (fun j hj => ?_) ?_
      · rw [getD_set']
        by_cases cq : q = it (permW w) m p0
        · rw [if_pos ⟨by rw [cq], by omega⟩]
          exact ⟨fun _ => .inr ⟨m, by omega, cq⟩, fun _ => rfl⟩
        · rw [if_neg fun k => cq (by omega), hW q hq]
          constructor
          · rintro (h1 | ⟨j, hj, h1⟩)
            · exact .inl h1
            · exact .inr ⟨j, by omega, h1⟩
          · rintro (h1 | ⟨j, hj, h1⟩)
            · exact .inl h1
            · refine .inr ⟨j, ?_, h1⟩
              by_cases cj : j = m
              · subst cj; exact absurd h1 cq
              · omega
      · by_cases ci : i = m <;> by_cases cj : j = m
        · omega
        · subst ci
          exact absurd (.inr ⟨j, by omega, e⟩) hncw
        · subst cj
          exact absurd (.inr ⟨i, by omega, e.symm⟩) hncw
        · exact hn i j (by omega) (by omega) e
      · by_cases cj : j = m
        · subst cj; exact fun k => hncw (.inl k)
        · exact hC j (by omega)
      · rw [it_succ']
        refine ⟨h2.at_, h2.inv, fun x => ?_, h2.chn, h2.la⟩
        rw [h2.mem]
        constructor
        · rintro ⟨h1, ⟨q, (h3 | ⟨j, hj, h3⟩) | h3, h4⟩ | ⟨h3, _⟩⟩
          · exact ⟨h1, .inl ⟨q, .inl h3, h4⟩⟩
          · exact ⟨h1, .inl ⟨q, .inr ⟨j, by omega, h3⟩, h4⟩⟩
          · exact ⟨h1, .inl ⟨q, .inr ⟨m, by omega, h3⟩, h4⟩⟩
          · omega
        · rintro ⟨h1, ⟨q, h3 | ⟨j, hj, h3⟩, h4⟩ | ⟨h3, _⟩⟩
          · exact ⟨h1, .inl ⟨q, .inl (.inl h3), h4⟩⟩
          · by_cases cj : j = m
            · subst cj; exact ⟨h1, .inl ⟨q, .inr h3, h4⟩⟩
            · exact ⟨h1, .inl ⟨q, .inl (.inr ⟨j, by omega, h3⟩), h4⟩⟩
          · omega
end Go.Proofs.YtdelekkbkpldjaaDoor.Kn

/- Closed words, plain: Close reckons a numbering of all passes along the strands, and how many strands nothing touches. -/
namespace Go.Proofs.YtdelekkbkpldjaaDoor.Kn
set_option linter.unusedVariables false

def freeB (w : List Int) (p : Nat) : Bool := (List.range w.length).all fun k => !decide (Tch w k p)
theorem freeB_iff {w : List Int} {p : Nat} : freeB w p = true ↔ Free w p := by
  unfold freeB Free
  simp only [List.all_eq_true, List.mem_range, Bool.not_eq_true', decide_eq_false_iff_not]
  exact ⟨fun h k hk => h k hk.1 hk, fun h k _ => h k⟩
theorem plW_low {w : List Int} {p : Nat} : ∀ {k : Nat}, (∀ j, j < k → ¬ Tch w j p) → plW w k p = p
  | 0, _ => rfl
  | k + 1, h => by
    show stP w k (plW w k p) = p
    rw [plW_low (k := k) fun j hj => h j (by omega)]
    unfold stP
    rw [if_neg (h k (by omega))]
theorem first_tch {w : List Int} {p : Nat} (h : ¬ Free w p) : ∃ k, Tch w k p ∧ plW w k p = p := by
  have : ∃ j, Tch w j p := Classical.byContradiction fun k => h fun j hj => k ⟨j, hj⟩
  obtain ⟨j, hj⟩ := this
  have hle := upT_find w p w.length 0 (by omega) j (Nat.zero_le _) hj
  refine ⟨_, upT_is w p w.length 0 (by omega) (Nat.lt_of_le_of_lt hle hj.1), plW_low fun i hi hti => ?_⟩
  have := upT_find w p w.length 0 (by omega) i (Nat.zero_le _) hti
  omega
def WtC (n : Nat) (W : List Bool) (q : Nat) : Prop := q < n ∧ W.getD (q + 1) false = true
/-- Behind the strands of the first places. -/
structure OI (n : Nat) (w : List Int) (p : Nat) (t : CL) (S : List (Nat × Nat)) (O : List Nat) : Prop where
  wl : t.W.length = n + 1
  per : ∀ q, q < n → (WtC n t.W q ↔ WtC n t.W (permW w q))
  inv : InvC w t.A t.nx S O
  mem : ∀ x, x ∈ S ↔ TchX w x ∧ ∃ q, WtC n t.W q ∧ x.2 = plW w x.1 q
  cls : ∀ j (h : j < S.length), ∃ j', ∃ h' : j' < S.length, S[j'] = npT w S[j] ∧ O.getD j 0 = j' + 1
  low : ∀ q, q < p → q < n → WtC n t.W q
  un : ∀ q, WtC n t.W q → Free w q → q < p
  loops : t.loops = (List.range p).countP (freeB w)
theorem OI.start (n : Nat) (w : List Int) : OI n w 0 ⟨List.replicate (n + 1) false, 1, List.replicate (4 * w.length) 0, 0⟩ [] [] := by
  have hf : ∀ q, ¬ WtC n (List.replicate (n + 1) false) q := fun q h => by
    have := h.2
    rw [List.getD_eq_getElem?_getD, List.getElem?_replicate] at this
    split at this <;> simp at this
  exact ⟨by simp, fun q _ => ⟨fun h => absurd h (hf _), fun h => absurd h (hf _)⟩, ⟨by simp, by simp, by simp, rfl, rfl, fun j h => by simp at h⟩, fun x => ⟨fun h => by simp at h, fun h => by obtain ⟨_, q, h, _⟩ := h; exact absurd h (hf q)⟩, fun j h => by simp at h, fun q h => by omega, fun q h => absurd h (hf q), rfl⟩
theorem OI.place {n : Nat} {w : List Int} (hw : LetsM n w) {p : Nat} (hp : p < n) {t : CL} {S : List (Nat × Nat)} {O : List Nat} (h : OI n w p t S O) : ∃ t' S' O', placeC n w (p + 1) t = some t' ∧ OI n w (p + 1) t' S' O' := by
  unfold placeC
  by_cases c : t.W.getD (p + 1) false = true
  · rw [if_pos c]
    have hpw : WtC n t.W p := ⟨hp, c⟩
    refine ⟨t, S, O, rfl, h.wl, h.per, h.inv, h.mem, h.cls, fun q hq hqn => ?_, fun q h1 h2 => by have := h.un q h1 h2; omega, ?_⟩
    · by_cases cq : q = p
      · subst cq; exact hpw
      · exact h.low q (by omega) hqn
    · rw [List.range_succ, List.countP_append, ← h.loops, List.countP_cons, List.countP_nil, if_neg (fun k => by have := h.un p hpw (freeB_iff.1 k); omega)]
      rfl
  · rw [if_neg c]
    have h0 : ¬ WtC n t.W p := fun k => c k.2
    have hpi : PI w (fun q => WtC n t.W q ∨ ∃ j, j < 0 ∧ q = it (permW w) j p) p (it (permW w) 0 p) 0 S O ⟨p + 1, t.nx, t.A, none⟩ [] := by
      refine ⟨rfl, by simpa using h.inv, fun x => ?_, rfl, rfl⟩
      rw [List.append_nil, h.mem]
      constructor
      · rintro ⟨h1, q, h2, h3⟩; exact ⟨h1, .inl ⟨q, .inl h2, h3⟩⟩
      · rintro ⟨h1, ⟨q, h2 | ⟨j, hj, _⟩, h3⟩ | ⟨h2, _⟩⟩
        · exact ⟨h1, q, h2, h3⟩
        · omega
        · omega
    obtain ⟨Wl, s, C, S2, hs, hl, hW, hC0, hCn, hper, hfr, h2⟩ := strand_ok hw (W0 := WtC n t.W) h.per hp h0 (S0 := S) (O0 := O) (n + 1) 0 t.W _ [] (by omega) h.wl (fun q hq => by
      constructor
      · intro k; exact .inl ⟨hq, k⟩
      · rintro (k | ⟨j, hj, _⟩)
        · exact k.2
        · omega) (fun i j hi => by omega) (fun j hj => by omega) hpi
    have hWt : ∀ q, WtC n Wl q ↔ WtC n t.W q ∨ C q := fun q => by
      constructor
      · rintro ⟨k1, k2⟩; exact (hW q k1).1 k2
      · rintro (k | k)
        · exact ⟨k.1, (hW q k.1).2 (.inl k)⟩
        · exact ⟨hCn q k, (hW q (hCn q k)).2 (.inr k)⟩
    have hper' : ∀ q, q < n → (WtC n Wl q ↔ WtC n Wl (permW w q)) := fun q hq => by
      rw [hWt, hWt, h.per q hq, hper q hq]
    have hlow : ∀ q, q < p + 1 → q < n → WtC n Wl q := fun q hq hqn => (hWt q).2 (by
      by_cases cq : q = p
      · subst cq; exact .inr hC0
      · exact .inl (h.low q (by omega) hqn))
    have hun : ∀ q, WtC n Wl q → Free w q → q < p + 1 := fun q k1 k2 => by
      rcases (hWt q).1 k1 with k | k
      · have := h.un q k k2; omega
      · have := hfr q k k2; omega
    have hmem : ∀ x, x ∈ S ++ S2 ↔ TchX w x ∧ ∃ q, WtC n Wl q ∧ x.2 = plW w x.1 q := fun x => by
      rw [h2.mem]
      constructor
      · rintro ⟨h1, ⟨q, k, h3⟩ | ⟨k, _⟩⟩
        · exact ⟨h1, q, (hWt q).2 k, h3⟩
        · omega
      · rintro ⟨h1, q, k, h3⟩
        exact ⟨h1, .inl ⟨q, (hWt q).1 k, h3⟩⟩
    have hchn := h2.chn
    have hchn : Chn w (nxT w 0 p, p) S2 (nxT w 0 p, p) := hchn
    have lo := h.inv.lo
    rw [hs]
    by_cases ce : S2 = []
    · subst ce
      have hla := h2.la
      simp only [List.getLast?_nil, Option.map_none] at hla
      have hfree : Free w p := Classical.byContradiction fun k => by
        obtain ⟨k0, hk0, e⟩ := first_tch k
        have h3 : (k0, p) ∈ S ++ [] := (hmem _).2 ⟨hk0, p, (hWt p).2 (.inr hC0), e.symm⟩
        rw [List.append_nil, h.mem] at h3
        obtain ⟨_, q, h4, h5⟩ := h3
        have h5 : p = plW w k0 q := h5
        rw [← e] at h5
        exact h0 (plW_inj h5 ▸ h4)
      simp only [hla]
      refine ⟨_, S, O, rfl, hl, hper', by have := h2.inv; simpa using this, by simpa using hmem, h.cls, hlow, hun, ?_⟩
      rw [List.range_succ, List.countP_append, ← h.loops, List.countP_cons, List.countP_nil, if_pos (freeB_iff.2 hfree)]
    · have hlen : 0 < S2.length := List.length_pos_iff.2 ce
      have hlast : S2.getLast? = some S2[S2.length - 1] := by rw [List.getLast?_eq_getElem?, List.getElem?_eq_getElem (by omega)]
      have hla := h2.la
      rw [hlast] at hla
      simp only [Option.map_some] at hla
      have hfree : ¬ Free w p := fun k => by
        have h3 : S2[0] ∈ S ++ S2 := List.mem_append_right _ (List.getElem_mem hlen)
        rw [hchn.first hlen] at h3
        have h4 : Tch w (nxT w 0 p) p := ((hmem _).1 h3).1
        exact k _ h4
      have hnx : t.nx = S.length + 1 := h.inv.nx
      simp only [hla]
      have hj : S.length + (S2.length - 1) < (S ++ S2).length := by rw [List.length_append]; omega
      have eg : (S ++ S2)[S.length + (S2.length - 1)] = S2[S2.length - 1] := by
        rw [List.getElem_append_right (by omega)]
        simp
      have hinv := h2.inv.close hj t.nx
      rw [eg] at hinv
      refine ⟨_, S ++ S2, _, rfl, hl, hper', hinv, hmem, fun j hjl => ?_, hlow, hun, ?_⟩
      · rw [getD_set']
        by_cases cj : j < S.length
        · rw [if_neg (by omega)]
          obtain ⟨j', h', e1, e2⟩ := h.cls j cj
          refine ⟨j', by rw [List.length_append]; omega, ?_, ?_⟩
          · rw [List.getElem_append_left h', List.getElem_append_left cj]; exact e1
          · rw [List.getD_eq_getElem?_getD, List.getElem?_append_left (by omega), ← List.getD_eq_getElem?_getD]; exact e2
        · rw [List.length_append] at hjl
          have hn := hchn.next (j - S.length) (by omega)
          have ejl : (S ++ S2)[j] = S2[j - S.length] := by rw [List.getElem_append_right (by omega)]
          rw [ejl]
          by_cases cl : j = S.length + (S2.length - 1)
          · rw [if_pos ⟨cl, by rw [List.length_append, List.length_map, List.length_range]; omega⟩]
            rw [dif_neg (by omega)] at hn
            refine ⟨S.length, by rw [List.length_append]; omega, ?_, hnx⟩
            rw [List.getElem_append_right (Nat.le_refl _), ← hn]
            simpa using hchn.first hlen
          · rw [if_neg fun k => cl k.1]
            rw [dif_pos (show j - S.length + 1 < S2.length by omega)] at hn
            refine ⟨j + 1, by rw [List.length_append]; omega, ?_, ?_⟩
            · rw [List.getElem_append_right (by omega), ← hn]
              congr 1; omega
            · rw [List.getD_eq_getElem?_getD, List.getElem?_append_right (by omega), List.getElem?_map, List.getElem?_range (by omega)]
              simp; omega
      · rw [List.range_succ, List.countP_append, ← h.loops, List.countP_cons, List.countP_nil, if_neg (fun k => hfree (freeB_iff.1 k))]
        rfl
theorem close_oi {n : Nat} {w : List Int} (hw : LetsM n w) : ∀ p, p ≤ n → ∃ t S O, closeC n w p = some t ∧ OI n w p t S O
  | 0, _ => ⟨_, [], [], rfl, OI.start n w⟩
  | p + 1, hp => by
    obtain ⟨t, S, O, e, h⟩ := close_oi hw p (by omega)
    obtain ⟨t', S', O', e', h'⟩ := h.place hw (by omega)
    exact ⟨t', S', O', by rw [closeC, e]; exact e', h'⟩

/-- All passes are numbered, and the numbers lie along the strands. -/
structure Clo (w : List Int) (A : List Nat) (N : Nat × Nat → Nat) : Prop where
  len : A.length = 4 * w.length
  rng : ∀ x, TchX w x → 1 ≤ N x ∧ N x ≤ 2 * w.length
  inj : ∀ x y, TchX w x → TchX w y → N x = N y → x = y
  inn : ∀ x, TchX w x → A.getD (cellT w x) 0 = N x
  out : ∀ x, TchX w x → A.getD (cellT w x + 1) 0 = N (npT w x)
def allT (w : List Int) : List (Nat × Nat) := (List.range w.length).flatMap fun k => [(k, iw w k), (k, iw w k + 1)]
theorem mem_allT {w : List Int} {x : Nat × Nat} : x ∈ allT w ↔ TchX w x := by
  unfold allT TchX Tch
  rw [List.mem_flatMap]
  constructor
  · rintro ⟨k, hk, h⟩
    rw [List.mem_range] at hk
    simp only [List.mem_cons, List.not_mem_nil, or_false] at h
    rcases h with rfl | rfl
    · exact ⟨hk, .inl rfl⟩
    · exact ⟨hk, .inr rfl⟩
  · rintro ⟨h1, h2⟩
    refine ⟨x.1, List.mem_range.2 h1, ?_⟩
    simp only [List.mem_cons, List.not_mem_nil, or_false]
    rcases h2 with h2 | h2
    · exact .inl (Prod.ext rfl h2)
    · exact .inr (Prod.ext rfl h2)
theorem allT_len (w : List Int) : (allT w).length = 2 * w.length := by
  unfold allT
  have : ∀ l : List Nat, (l.flatMap fun k => [(k, iw w k), (k, iw w k + 1)]).length = 2 * l.length := by
    intro l
    induction l with
    | nil => rfl
    | cons a l ih => rw [List.flatMap_cons, List.length_append, ih]; simp; omega
  rw [this, List.length_range]
theorem idx_inj {l : List (Nat × Nat)} {x y : Nat × Nat} (hx : x ∈ l) (e : l.idxOf x = l.idxOf y) : x = y := by
  have h1 := List.idxOf_lt_length_of_mem hx
  have h2 : l[l.idxOf x] = x := List.getElem_idxOf h1
  have h3 : l[l.idxOf y]'(e ▸ h1) = y := List.getElem_idxOf _
  rw [← h2, ← h3]
  congr 1
theorem idx_at {l : List (Nat × Nat)} (hn : l.Nodup) {j : Nat} (hj : j < l.length) : l.idxOf l[j] = j := by
  have h1 := List.idxOf_lt_length_of_mem (List.getElem_mem hj)
  exact (List.getElem_inj (h₀ := h1) (h₁ := hj) hn).1 (List.getElem_idxOf h1)
/-- WHAT CLOSE RECKONS. -/
theorem close_clo {n : Nat} {w : List Int} (hw : LetsM n w) : ∃ t N, closeC n w n = some t ∧ Clo w t.A N ∧ t.loops = (List.range n).countP (freeB w) := by
  obtain ⟨t, S, O, e, h⟩ := close_oi hw n (Nat.le_refl _)
  have hall : ∀ x, TchX w x → x ∈ S := fun x hx => by
    have hxn : x.2 < n := by
      obtain ⟨_, h2⟩ := hw.iw hx.1
      have := hx.2; omega
    obtain ⟨q, hq, eq⟩ := plW_onto hw x.1 hxn
    exact (h.mem x).2 ⟨hx, q, h.low q hq hq, eq.symm⟩
  have hle : S.length ≤ 2 * w.length := by
    rw [← allT_len]
    exact nodup_le h.inv.nd fun x hx => mem_allT.2 (h.inv.tch x hx)
  refine ⟨t, fun x => S.idxOf x + 1, e, ⟨h.inv.la, fun x hx => ?_, fun x y hx hy e => ?_, fun x hx => ?_, fun x hx => ?_⟩, h.loops⟩
  · have := List.idxOf_lt_length_of_mem (hall x hx)
    omega
  · exact idx_inj (hall x hx) (Nat.succ.inj e)
  · have h1 := List.idxOf_lt_length_of_mem (hall x hx)
    have := (h.inv.cell _ h1).1
    rwa [List.getElem_idxOf h1] at this
  · have h1 := List.idxOf_lt_length_of_mem (hall x hx)
    have h2 := (h.inv.cell _ h1).2
    rw [List.getElem_idxOf h1] at h2
    obtain ⟨j', h', e1, e2⟩ := h.cls _ h1
    rw [List.getElem_idxOf h1] at e1
    rw [h2, e2, ← e1, idx_at h.inv.nd h']
end Go.Proofs.YtdelekkbkpldjaaDoor.Kn

/- Closed words, plain: the diagram that Close makes may be. -/
namespace Go.Proofs.YtdelekkbkpldjaaDoor.Kn
set_option linter.unusedVariables false

/-- A crossing of a letter: with what the strand from the left comes in and goes out, and with what that from the right does. -/
def mkC (a : Int) (l0 l1 r0 r1 : Nat) : Cr := if 0 < a then ⟨r0, l1, r1, l0, true⟩ else ⟨l0, r0, l1, r1, false⟩
def closX (w : List Int) (A : List Nat) : List Cr := (List.range w.length).map fun k => mkC (w.getD k 0) (A.getD (4 * k) 0) (A.getD (4 * k + 1) 0) (A.getD (4 * k + 2) 0) (A.getD (4 * k + 3) 0)
/-- The number at a level and place. -/
def labC (w : List Int) (N : Nat × Nat → Nat) (k p : Nat) : Nat := N (nxT w k p, p)
/-- Which leg a place of a crossing is: below left, below right, above right, above left. -/
def rP (w : List Int) (p : Pl) : Nat := (p.2 + if 0 < w.getD p.1 0 then 1 else 0) % 4
def lvP (w : List Int) (p : Pl) : Nat := p.1 + if rP w p < 2 then 0 else 1
def plP (w : List Int) (p : Pl) : Nat := iw w p.1 + if rP w p = 1 ∨ rP w p = 2 then 1 else 0
theorem closX_len (w : List Int) (A : List Nat) : (closX w A).length = w.length := by unfold closX; simp
theorem closX_cr {w : List Int} {A : List Nat} {k : Nat} (h : k < w.length) : cr (closX w A) k = mkC (w.getD k 0) (A.getD (4 * k) 0) (A.getD (4 * k + 1) 0) (A.getD (4 * k + 2) 0) (A.getD (4 * k + 3) 0) := by
  unfold cr closX
  rw [List.getD_eq_getElem?_getD, List.getElem?_map, List.getElem?_range h]; rfl
theorem four {s : Nat} (h : s < 4) : s = 0 ∨ s = 1 ∨ s = 2 ∨ s = 3 := by omega
section
variable {w : List Int} {A : List Nat} {N : Nat × Nat → Nat}
theorem Clo.legs (h : Clo w A N) {k : Nat} (hk : k < w.length) : A.getD (4 * k) 0 = labC w N k (iw w k) ∧ A.getD (4 * k + 1) 0 = labC w N (k + 1) (iw w k + 1) ∧ A.getD (4 * k + 2) 0 = labC w N k (iw w k + 1) ∧ A.getD (4 * k + 3) 0 = labC w N (k + 1) (iw w k) := by
  have t0 : Tch w k (iw w k) := ⟨hk, .inl rfl⟩
  have t1 : Tch w k (iw w k + 1) := ⟨hk, .inr rfl⟩
  have c0 : cellT w (k, iw w k) = 4 * k := by unfold cellT; simp
  have c1 : cellT w (k, iw w k + 1) = 4 * k + 2 := by unfold cellT; simp only; omega
  have a0 := h.inn (k, iw w k) t0
  have a1 := h.out (k, iw w k) t0
  have a2 := h.inn (k, iw w k + 1) t1
  have a3 := h.out (k, iw w k + 1) t1
  have o0 : opT w k (iw w k) = iw w k + 1 := if_pos rfl
  have o1 : opT w k (iw w k + 1) = iw w k := if_neg (by omega)
  rw [c0] at a0 a1
  rw [c1] at a2 a3
  unfold npT at a1 a3
  simp only [o0] at a1
  simp only [o1] at a3
  unfold labC
  rw [nxT_touch t0, nxT_touch t1]
  exact ⟨a0, a1, a2, a3⟩
theorem Clo.at_ (h : Clo w A N) {p : Pl} (hp : isPl (closX w A) p) : Kn.at_ (closX w A) p = (labC w N (lvP w p) (plP w p) : Nat) ∧ cm (closX w A) p = decide (rP w p < 2) := by
  obtain ⟨k, s⟩ := p
  have hk : k < w.length := by have := hp.1; rw [closX_len] at this; exact this
  have hs : s < 4 := hp.2
  obtain ⟨a0, a1, a2, a3⟩ := h.legs hk
  unfold Kn.at_ cm lvP plP rP
  simp only
  rw [closX_cr hk, a0, a1, a2, a3]
  unfold mkC
  by_cases c : 0 < w.getD k 0
  · simp only [if_pos c]
    rcases four hs with rfl | rfl | rfl | rfl <;> exact ⟨rfl, rfl⟩
  · simp only [if_neg c]
    rcases four hs with rfl | rfl | rfl | rfl <;> exact ⟨rfl, rfl⟩
end
theorem rP_up {w : List Int} {p : Pl} : rP w (up p) = (rP w p + 1) % 4 := by
  unfold rP up; simp only; omega
theorem rP_lt (w : List Int) (p : Pl) : rP w p < 4 := Nat.mod_lt _ (by omega)
/-- The place that is a leg. -/
def ofR (w : List Int) (k r : Nat) : Pl := (k, (r + if 0 < w.getD k 0 then 3 else 0) % 4)
theorem rP_ofR {w : List Int} {k r : Nat} (h : r < 4) : rP w (ofR w k r) = r := by
  unfold rP ofR; simp only
  split <;> omega
/-- Where the touches lie behind a touch. -/
theorem nxT_mid {w : List Int} {k j p : Nat} (hj : Tch w j p) (hk : k ≤ j) : k ≤ nxT w k p ∧ nxT w k p ≤ j := by
  have h1 := upT_find w p (w.length - k) k (by have := hj.1; omega) j hk hj
  have h2 := hj.1
  have h3 : ∀ d k, k ≤ upT w p d k := by
    intro d
    induction d with
    | zero => intro k; exact Nat.le_refl _
    | succ d ih =>
      intro k
      unfold upT
      split
      · omega
      · have := ih (k + 1); omega
  unfold nxT
  rw [if_pos (by omega)]
  exact ⟨h3 _ _, h1⟩
theorem nxT_wrap {w : List Int} {k j p : Nat} (hj : Tch w j p) (hk : k ≤ w.length) (h : ∀ i, k ≤ i → ¬ Tch w i p) : nxT w k p ≤ j := by
  have h1 := upT_find w p w.length 0 (by omega) j (Nat.zero_le _) hj
  unfold nxT
  split
  · rename_i hlt
    exfalso
    have h2 := upT_is w p (w.length - k) k (by omega) hlt
    have h3 := nxT_mid (k := k) (j := upT w p (w.length - k) k) h2
    have h4 : ∀ d k, k ≤ upT w p d k := by
      intro d
      induction d with
      | zero => intro k; exact Nat.le_refl _
      | succ d ih =>
        intro k
        unfold upT
        split
        · omega
        · have := ih (k + 1); omega
    exact h _ (h4 _ _) h2
  · exact h1
theorem npT_lt {w : List Int} {k j p : Nat} (hk : Tch w k p) (hj : Tch w j p) (hkj : k < j) : nxT w (k + 1) p ≠ nxT w (j + 1) p := by
  obtain ⟨h1, h2⟩ := nxT_mid (k := k + 1) hj (by omega)
  have hjl := hj.1
  by_cases c : ∃ i, j + 1 ≤ i ∧ Tch w i p
  · obtain ⟨i, hi, ht⟩ := c
    have := (nxT_mid (k := j + 1) ht hi).1
    omega
  · have := nxT_wrap (k := j + 1) hk (by omega) fun i hi ht => c ⟨i, hi, ht⟩
    omega
theorem npT_inj {w : List Int} {x y : Nat × Nat} (hx : TchX w x) (hy : TchX w y) (e : npT w x = npT w y) : x = y := by
  unfold npT at e
  injection e with e1 e2
  have hx' := opT_tch hx
  have hy' := opT_tch hy
  rw [← e2] at hy' e1
  have ek : x.1 = y.1 := by
    rcases Nat.lt_trichotomy x.1 y.1 with c | c | c
    · exact absurd e1 (npT_lt hx' hy' c)
    · exact c
    · exact absurd e1.symm (npT_lt hy' hx' c)
  refine Prod.ext ek ?_
  have h1 := opT_opT hx
  have h2 := opT_opT hy
  rw [← h1, ← h2, ← e2, ek]
theorem npT_tch {w : List Int} {x : Nat × Nat} (hx : TchX w x) : TchX w (npT w x) := by
  have h := opT_tch hx
  exact nxT_is ⟨x.1, h⟩ (by have := h.1; omega)
/-- An injection of 2 L things into 2 L numbers takes all. -/
theorem hit_all {w : List Int} {f : Nat × Nat → Nat} (h1 : ∀ x, TchX w x → 1 ≤ f x ∧ f x ≤ 2 * w.length) (h2 : ∀ x y, TchX w x → TchX w y → f x = f y → x = y) {a : Nat} (ha : 1 ≤ a) (hb : a ≤ 2 * w.length) : ∃ x, TchX w x ∧ f x = a := by
  refine Classical.byContradiction fun hne => ?_
  have hnd : (allT w).Nodup := by
    unfold allT
    rw [List.Nodup, List.pairwise_flatMap]
    refine ⟨fun k _ => by simp, ?_⟩
    refine List.Pairwise.imp_of_mem (fun {a b} _ _ hab => ?_) (List.pairwise_lt_range (n := w.length))
    intro x hx y hy e
    simp only [List.mem_cons, List.not_mem_nil, or_false] at hx hy
    rcases hx with rfl | rfl <;> rcases hy with rfl | rfl <;> (have := congrArg Prod.fst e; simp only at this; omega)
  have := nodup_le (l := a :: (allT w).map f) (m := (List.range (2 * w.length)).map (· + 1)) (List.nodup_cons.2 ⟨fun hm => by
    obtain ⟨x, hx, e⟩ := List.mem_map.1 hm
    exact hne ⟨x, mem_allT.1 hx, e⟩, by
      rw [List.Nodup, List.pairwise_map]
      exact List.Pairwise.imp_of_mem (fun {x y} hx hy hxy e => hxy (h2 x y (mem_allT.1 hx) (mem_allT.1 hy) e)) hnd⟩) fun b hb' => by
    rcases List.mem_cons.1 hb' with rfl | hb'
    · exact List.mem_map.2 ⟨b - 1, List.mem_range.2 (by omega), by omega⟩
    · obtain ⟨x, hx, rfl⟩ := List.mem_map.1 hb'
      have := h1 x (mem_allT.1 hx)
      exact List.mem_map.2 ⟨f x - 1, List.mem_range.2 (by omega), by omega⟩
  rw [List.length_cons, List.length_map, allT_len, List.length_map, List.length_range] at this
  omega
section
variable {w : List Int} {A : List Nat} {N : Nat × Nat → Nat}
theorem plP_tch {p : Pl} (hp : isPl (closX w A) p) : Tch w p.1 (plP w p) := by
  have := hp.1; rw [closX_len] at this
  refine ⟨this, ?_⟩
  unfold plP
  split
  · exact .inr rfl
  · exact .inl rfl
theorem lvP_le {p : Pl} (hp : isPl (closX w A) p) : lvP w p ≤ w.length := by
  have := hp.1; rw [closX_len] at this
  unfold lvP; split <;> omega
theorem Clo.leg (h : Clo w A N) {k r : Nat} (hk : k < w.length) (hr : r < 4) : isPl (closX w A) (ofR w k r) ∧ Kn.at_ (closX w A) (ofR w k r) = (labC w N (k + if r < 2 then 0 else 1) (iw w k + if r = 1 ∨ r = 2 then 1 else 0) : Nat) ∧ cm (closX w A) (ofR w k r) = decide (r < 2) := by
  have hp : isPl (closX w A) (ofR w k r) := ⟨by rw [closX_len]; exact hk, Nat.mod_lt _ (by omega)⟩
  obtain ⟨k1, k2⟩ := h.at_ hp
  have e3 : rP w (ofR w k r) = r := rP_ofR hr
  unfold lvP plP at k1
  rw [e3] at k1 k2
  exact ⟨hp, k1, k2⟩
theorem Clo.ok (h : Clo w A N) : Ok (closX w A) := by
  have hn : nArcs (closX w A) = 2 * w.length := by unfold nArcs; rw [closX_len]
  refine ok_all (fun p hp => ?_) fun io a ha => ?_
  · rw [(h.at_ hp).1, hn]
    have ht := nxT_is ⟨p.1, plP_tch hp⟩ (lvP_le hp)
    have := h.rng (nxT w (lvP w p) (plP w p), plP w p) ht
    unfold labC; omega
  · unfold Kn.isArc at ha
    rw [hn] at ha
    cases io with
    | true =>
      obtain ⟨x, hx, e⟩ := hit_all h.rng h.inj ha.1 ha.2
      obtain ⟨k, p⟩ := x
      have hxt : Tch w k p := hx
      have hlt := hxt.1
      rcases hxt.2 with e2 | e2
      · obtain ⟨k0, k1, k2⟩ := h.leg hlt (r := 0) (by omega)
        refine ⟨_, k0, by rw [k2]; rfl, ?_⟩
        rw [k1]
        show ((labC w N k (iw w k) : Nat) : Int) = a
        rw [← e2, labC, nxT_touch hxt, e]
      · obtain ⟨k0, k1, k2⟩ := h.leg hlt (r := 1) (by omega)
        refine ⟨_, k0, by rw [k2]; rfl, ?_⟩
        rw [k1]
        show ((labC w N k (iw w k + 1) : Nat) : Int) = a
        rw [← e2, labC, nxT_touch hxt, e]
    | false =>
      obtain ⟨x, hx, e⟩ := hit_all (f := fun x => N (npT w x)) (fun x hx => h.rng _ (npT_tch hx)) (fun x y hx hy e => npT_inj hx hy (h.inj _ _ (npT_tch hx) (npT_tch hy) e)) ha.1 ha.2
      obtain ⟨k, p⟩ := x
      have hxt : Tch w k p := hx
      have hlt := hxt.1
      rw [← e]
      rcases hxt.2 with e2 | e2
      · obtain ⟨k0, k1, k2⟩ := h.leg hlt (r := 2) (by omega)
        refine ⟨_, k0, by rw [k2]; rfl, ?_⟩
        rw [k1]
        show ((labC w N (k + 1) (iw w k + 1) : Nat) : Int) = (N (nxT w (k + 1) (opT w k p), opT w k p) : Nat)
        have : opT w k p = iw w k + 1 := if_pos e2
        rw [this]; rfl
      · obtain ⟨k0, k1, k2⟩ := h.leg hlt (r := 3) (by omega)
        refine ⟨_, k0, by rw [k2]; rfl, ?_⟩
        rw [k1]
        show ((labC w N (k + 1) (iw w k) : Nat) : Int) = (N (nxT w (k + 1) (opT w k p), opT w k p) : Nat)
        have : opT w k p = iw w k := if_neg (by omega)
        rw [this]; rfl
/-- Numbers that are one belong to one pass to come. -/
theorem Clo.lab_inj (h : Clo w A N) {k p k' p' : Nat} (hk : k ≤ w.length) (hk' : k' ≤ w.length) (hp : ∃ j, Tch w j p) (hp' : ∃ j, Tch w j p') (e : labC w N k p = labC w N k' p') : nxT w k p = nxT w k' p' ∧ p = p' := by
  have := h.inj (nxT w k p, p) (nxT w k' p', p') (nxT_is hp hk) (nxT_is hp' hk') e
  injection this with h1 h2
  exact ⟨h1, h2⟩
end
end Go.Proofs.YtdelekkbkpldjaaDoor.Kn

/- Closed words, plain: the diagram that Close makes is planar. -/
namespace Go.Proofs.YtdelekkbkpldjaaDoor.Kn
set_option linter.unusedVariables false

/-- Crossings of a column; those ahead of a level. -/
def cbC (w : List Int) (c k : Nat) : Nat := (List.range k).countP fun j => decide ((w.getD j 0).natAbs = c)
def mC (w : List Int) (c : Nat) : Nat := cbC w c w.length
theorem cbC_succ (w : List Int) (c k : Nat) : cbC w c (k + 1) = cbC w c k + if (w.getD k 0).natAbs = c then 1 else 0 := by
  unfold cbC
  rw [List.range_succ, List.countP_append, List.countP_cons, List.countP_nil]
  simp
theorem cbC_mono (w : List Int) (c : Nat) {j : Nat} : ∀ {k : Nat}, j ≤ k → cbC w c j ≤ cbC w c k
  | 0, h => by rw [show j = 0 by omega]; exact Nat.le_refl _
  | k + 1, h => by
    by_cases e : j = k + 1
    · rw [e]; exact Nat.le_refl _
    · have := cbC_mono w c (j := j) (k := k) (by omega)
      rw [cbC_succ]; omega
theorem cbC_lt {w : List Int} {k : Nat} (hk : k < w.length) : cbC w (w.getD k 0).natAbs k < mC w (w.getD k 0).natAbs := by
  have h1 := cbC_mono w (w.getD k 0).natAbs (j := k + 1) (k := w.length) hk
  have h2 := cbC_succ w (w.getD k 0).natAbs k
  rw [if_pos rfl] at h2
  unfold mC; omega
theorem mC_pos {w : List Int} {c : Nat} (h : mC w c ≠ 0) : ∃ k, k < w.length ∧ (w.getD k 0).natAbs = c := by
  unfold mC cbC at h
  have : 0 < List.countP (fun j => decide ((w.getD j 0).natAbs = c)) (List.range w.length) := by omega
  rw [List.countP_pos_iff] at this
  obtain ⟨k, hk, e⟩ := this
  exact ⟨k, List.mem_range.1 hk, of_decide_eq_true e⟩
/-- The face to the left of a strand that goes up, and of one that goes down. -/
def cdC (w : List Int) (c x : Nat) : Nat := c * (w.length + 3) + x
def FC (w : List Int) (k p : Nat) : Nat := cdC w p (if mC w p = 0 then 1 else 2 + cbC w p k % mC w p)
def BC (w : List Int) (k p : Nat) : Nat := cdC w (p + 1) (if mC w (p + 1) = 0 then 0 else 2 + cbC w (p + 1) k % mC w (p + 1))
theorem cdC_inj {w : List Int} {c c' x x' : Nat} (hx : x < w.length + 3) (hx' : x' < w.length + 3) (e : cdC w c x = cdC w c' x') : c = c' ∧ x = x' := by
  unfold cdC at e
  have h1 : (c * (w.length + 3) + x) / (w.length + 3) = (c' * (w.length + 3) + x') / (w.length + 3) := by rw [e]
  rw [Nat.mul_comm c, Nat.mul_comm c', Nat.mul_add_div (by omega), Nat.mul_add_div (by omega), Nat.div_eq_of_lt hx, Nat.div_eq_of_lt hx'] at h1
  have : c = c' := by omega
  subst this
  exact ⟨rfl, by omega⟩
theorem FC_on {w : List Int} {k p : Nat} (h : (w.getD k 0).natAbs ≠ p) : FC w (k + 1) p = FC w k p := by
  unfold FC
  rw [cbC_succ, if_neg h]; rfl
theorem BC_on {w : List Int} {k p : Nat} (h : (w.getD k 0).natAbs ≠ p + 1) : BC w (k + 1) p = BC w k p := by
  unfold BC
  rw [cbC_succ, if_neg h]; rfl
theorem FC_round (w : List Int) (p : Nat) : FC w w.length p = FC w 0 p := by
  unfold FC
  by_cases c : mC w p = 0
  · rw [if_pos c, if_pos c]
  · rw [if_neg c, if_neg c]
    show cdC w p (2 + mC w p % mC w p) = cdC w p (2 + 0 % mC w p)
    rw [Nat.mod_self, Nat.zero_mod]
theorem BC_round (w : List Int) (p : Nat) : BC w w.length p = BC w 0 p := by
  unfold BC
  by_cases c : mC w (p + 1) = 0
  · rw [if_pos c, if_pos c]
  · rw [if_neg c, if_neg c]
    show cdC w (p + 1) (2 + mC w (p + 1) % mC w (p + 1)) = cdC w (p + 1) (2 + 0 % mC w (p + 1))
    rw [Nat.mod_self, Nat.zero_mod]
theorem BC_FC {w : List Int} {k p : Nat} (h : mC w (p + 1) ≠ 0) : BC w k p = FC w k (p + 1) := by
  unfold BC FC
  rw [if_neg h, if_neg h]
section
variable {n : Nat} {w : List Int} {A : List Nat} {N : Nat × Nat → Nat}
theorem untch {n : Nat} {w : List Int} (hw : LetsM n w) {k p : Nat} (hk : k < w.length) (h : ¬ Tch w k p) : (w.getD k 0).natAbs ≠ p ∧ (w.getD k 0).natAbs ≠ p + 1 := by
  obtain ⟨h1, _⟩ := hw.iw hk
  constructor
  · intro e; exact h ⟨hk, .inr (by omega)⟩
  · intro e; exact h ⟨hk, .inl (by omega)⟩
theorem FC_next {n : Nat} {w : List Int} (hw : LetsM n w) {k p : Nat} (hk : k ≤ w.length) : FC w (nxT w k p) p = FC w k p :=
  nxT_const (f := fun k => FC w k p) (fun j hj ht => FC_on (untch hw hj ht).1) (FC_round w p) hk
theorem BC_next {n : Nat} {w : List Int} (hw : LetsM n w) {k p : Nat} (hk : k ≤ w.length) : BC w (nxT w k p) p = BC w k p :=
  nxT_const (f := fun k => BC w k p) (fun j hj ht => BC_on (untch hw hj ht).2) (BC_round w p) hk
/-- The face to the left of what comes to a place. -/
def LC (w : List Int) (p : Pl) : Nat := if rP w p < 2 then FC w (lvP w p) (plP w p) else BC w (lvP w p) (plP w p)
theorem Clo.face (h : Clo w A N) (hw : LetsM n w) {p : Pl} (hp : isPl (closX w A) p) : LC w (other (closX w A) p) = LC w (up p) := by
  have hX := h.ok
  have hq := hX.isPl_other hp
  have hc := hX.cm_other hp
  have ha := hX.arc_other hp
  have h1 := h.at_ hp
  have h2 := h.at_ hq
  rw [h1.2, h2.2] at hc
  have e : labC w N (lvP w (other (closX w A) p)) (plP w (other (closX w A) p)) = labC w N (lvP w p) (plP w p) := by
    unfold arcN at ha
    rw [h1.1, h2.1] at ha
    simpa using ha
  obtain ⟨e1, e2⟩ := h.lab_inj (lvP_le hq) (lvP_le hp) ⟨_, plP_tch hq⟩ ⟨_, plP_tch hp⟩ e
  have hF : FC w (lvP w (other (closX w A) p)) (plP w (other (closX w A) p)) = FC w (lvP w p) (plP w p) := by
    rw [← FC_next hw (lvP_le hq), ← FC_next hw (lvP_le hp), e1, e2]
  have hB : BC w (lvP w (other (closX w A) p)) (plP w (other (closX w A) p)) = BC w (lvP w p) (plP w p) := by
    rw [← BC_next hw (lvP_le hq), ← BC_next hw (lvP_le hp), e1, e2]
  have hk : p.1 < w.length := by have := hp.1; rw [closX_len] at this; exact this
  obtain ⟨ea, el⟩ := hw.iw hk
  have hm : mC w (iw w p.1 + 1) ≠ 0 := by
    have := cbC_lt hk
    rw [ea] at this; omega
  have eu : (up p).1 = p.1 := rfl
  have hru : rP w (up p) = (rP w p + 1) % 4 := rP_up
  have hl : LC w (other (closX w A) p) = if rP w p < 2 then BC w (lvP w p) (plP w p) else FC w (lvP w p) (plP w p) := by
    unfold LC
    by_cases c : rP w p < 2
    · rw [decide_eq_true c] at hc
      rw [if_neg (fun k => by rw [decide_eq_true k] at hc; cases hc), if_pos c, hB]
    · rw [decide_eq_false c] at hc
      rw [if_pos (of_decide_eq_true hc), if_neg c, hF]
  rw [hl]
  unfold LC
  have hr := rP_lt w p
  unfold lvP plP
  rw [eu, hru]
  rcases four hr with c | c | c | c
  · rw [c]
    show BC w p.1 (iw w p.1) = FC w p.1 (iw w p.1 + 1)
    exact BC_FC hm
  · rw [c]
    show BC w p.1 (iw w p.1 + 1) = BC w (p.1 + 1) (iw w p.1 + 1)
    exact (BC_on (by omega)).symm
  · rw [c]
    show FC w (p.1 + 1) (iw w p.1 + 1) = BC w (p.1 + 1) (iw w p.1)
    exact (BC_FC hm).symm
  · rw [c]
    show FC w (p.1 + 1) (iw w p.1) = FC w p.1 (iw w p.1)
    exact FC_on (by omega)
def startsC (n : Nat) (w : List Int) : List Nat := (List.range n).filter fun c => decide (mC w c = 0) && decide (mC w (c + 1) ≠ 0)
def endsC (n : Nat) (w : List Int) : List Nat := (List.range n).filter fun c => decide (mC w c ≠ 0) && decide (mC w (c + 1) = 0)
theorem start_end (w : List Int) (h0 : mC w 0 = 0) : ∀ n, (startsC n w).length = (endsC n w).length + if mC w n = 0 then 0 else 1
  | 0 => by simp [startsC, endsC, h0]
  | n + 1 => by
    have ih := start_end w h0 n
    unfold startsC endsC at ih ⊢
    rw [List.range_succ, List.filter_append, List.filter_append, List.length_append, List.length_append, ih]
    by_cases c : mC w n = 0 <;> by_cases d : mC w (n + 1) = 0 <;> simp [c, d]
theorem mC_zero {n : Nat} {w : List Int} (hw : LetsM n w) : mC w 0 = 0 ∧ mC w n = 0 := by
  constructor
  · refine Classical.byContradiction fun h => ?_
    obtain ⟨k, hk, e⟩ := mC_pos h
    have := (hw.iw hk).1; omega
  · refine Classical.byContradiction fun h => ?_
    obtain ⟨k, hk, e⟩ := mC_pos h
    have := hw.iw hk; omega
theorem Clo.faces (h : Clo w A N) (hw : LetsM n w) : w.length + (startsC n w).length + (endsC n w).length ≤ (facesL (closX w A)).length := by
  have hX := h.ok
  have b1 : ∀ c k, cbC w c k ≤ k := fun c k => by
    unfold cbC
    have := List.countP_le_length (p := fun j => decide ((w.getD j 0).natAbs = c)) (l := List.range k)
    simpa using this
  let vs := ((List.range w.length).map fun k => cdC w (iw w k + 1) (2 + cbC w (iw w k + 1) k)) ++ ((startsC n w).map (fun c => cdC w c 1) ++ (endsC n w).map fun c => cdC w (c + 1) 0)
  have hl : vs.length = w.length + (startsC n w).length + (endsC n w).length := by
    show (_ ++ (_ ++ _) : List Nat).length = _
    simp [Nat.add_assoc]
  rw [← hl]
  refine hX.faces_ge (L := LC w) (fun p hp => h.face hw hp) ?_ fun v hv => ?_
  · show (_ ++ (_ ++ _) : List Nat).Nodup
    rw [List.nodup_append, List.nodup_append]
    refine ⟨?_, ⟨?_, ?_, ?_⟩, ?_⟩
    · rw [List.Nodup, List.pairwise_map]
      refine List.Pairwise.imp_of_mem (fun {j k} hj hk hjk e => ?_) (List.pairwise_lt_range (n := w.length))
      have hj := List.mem_range.1 hj
      have hk := List.mem_range.1 hk
      have l1 := b1 (iw w j + 1) j
      have l2 := b1 (iw w k + 1) k
      obtain ⟨e1, e2⟩ := cdC_inj (by omega) (by omega) e
      rw [← e1] at e2
      have h3 := cbC_succ w (iw w j + 1) j
      rw [if_pos (hw.iw hj).1] at h3
      have h4 := cbC_mono w (iw w j + 1) (j := j + 1) (k := k) hjk
      omega
    · rw [List.Nodup, List.pairwise_map]
      refine List.Pairwise.imp (fun {a b} hab e => hab ?_) (List.nodup_range.sublist List.filter_sublist)
      exact (cdC_inj (by omega) (by omega) e).1
    · rw [List.Nodup, List.pairwise_map]
      refine List.Pairwise.imp (fun {a b} hab e => hab ?_) (List.nodup_range.sublist List.filter_sublist)
      have := (cdC_inj (by omega) (by omega) e).1
      omega
    · intro a ha b hb e
      obtain ⟨c, _, rfl⟩ := List.mem_map.1 ha
      obtain ⟨d, _, rfl⟩ := List.mem_map.1 hb
      have := (cdC_inj (by omega) (by omega) e).2
      omega
    · intro a ha b hb e
      obtain ⟨k, hk, rfl⟩ := List.mem_map.1 ha
      have hk := List.mem_range.1 hk
      have l2 := b1 (iw w k + 1) k
      rcases List.mem_append.1 hb with hb | hb
      · obtain ⟨d, _, rfl⟩ := List.mem_map.1 hb
        have := (cdC_inj (by omega) (by omega) e).2
        omega
      · obtain ⟨d, _, rfl⟩ := List.mem_map.1 hb
        have := (cdC_inj (by omega) (by omega) e).2
        omega
  · rcases List.mem_append.1 hv with hv | hv
    · obtain ⟨k, hk, rfl⟩ := List.mem_map.1 hv
      have hk := List.mem_range.1 hk
      obtain ⟨k0, _, _⟩ := h.leg hk (r := 1) (by omega)
      refine ⟨_, k0, ?_⟩
      unfold LC lvP plP
      rw [rP_ofR (show 1 < 4 by omega)]
      show FC w k (iw w k + 1) = _
      have h1 := cbC_lt hk
      rw [(hw.iw hk).1] at h1
      unfold FC
      rw [if_neg (by omega), Nat.mod_eq_of_lt h1]
    · rcases List.mem_append.1 hv with hv | hv
      · obtain ⟨c, hc, rfl⟩ := List.mem_map.1 hv
        have hc := (List.mem_filter.1 hc).2
        simp only [Bool.and_eq_true, decide_eq_true_eq] at hc
        obtain ⟨k, hk, e⟩ := mC_pos hc.2
        obtain ⟨k0, _, _⟩ := h.leg hk (r := 0) (by omega)
        refine ⟨_, k0, ?_⟩
        unfold LC lvP plP
        rw [rP_ofR (show 0 < 4 by omega)]
        show FC w k (iw w k) = _
        have : iw w k = c := by have := (hw.iw hk).1; omega
        rw [this]
        unfold FC
        rw [if_pos hc.1]
      · obtain ⟨c, hc, rfl⟩ := List.mem_map.1 hv
        have hc := (List.mem_filter.1 hc).2
        simp only [Bool.and_eq_true, decide_eq_true_eq] at hc
        obtain ⟨k, hk, e⟩ := mC_pos hc.1
        obtain ⟨k0, _, _⟩ := h.leg hk (r := 2) (by omega)
        refine ⟨_, k0, ?_⟩
        unfold LC lvP plP
        rw [rP_ofR (show 2 < 4 by omega)]
        show BC w (k + 1) (iw w k + 1) = _
        have : iw w k + 1 = c := by have := (hw.iw hk).1; omega
        rw [this]
        unfold BC
        rw [if_pos hc.2]
/-- Crossings that touch one place are connected. -/
theorem Clo.near (h : Clo w A N) {p : Nat} : ∀ (d k j : Nat), j ≤ k + d → Tch w k p → Tch w j p → k ≤ j → Ln (closX w A) (k, 0) (j, 0)
  | 0, k, j, hd, hk, hj, hkj => by
    have : k = j := by omega
    subst this
    exact Ln.refl _
  | d + 1, k, j, hd, hk, hj, hkj => by
    by_cases c : k = j
    · subst c; exact Ln.refl _
    · obtain ⟨m1, m2⟩ := nxT_mid (k := k + 1) hj (by omega)
      have hkl := hk.1
      have hm := nxT_is (k := k + 1) ⟨j, hj⟩ (by omega)
      have hX := h.ok
      -- the leg by which the place leaves k, and that by which it comes to the next
      have out : ∃ q, isPl (closX w A) q ∧ q.1 = k ∧ Kn.at_ (closX w A) q = (labC w N (k + 1) p : Nat) ∧ cm (closX w A) q = false := by
        rcases hk.2 with e | e
        · obtain ⟨k0, k1, k2⟩ := h.leg hkl (r := 3) (by omega)
          exact ⟨_, k0, rfl, by rw [k1, e]; rfl, by rw [k2]; rfl⟩
        · obtain ⟨k0, k1, k2⟩ := h.leg hkl (r := 2) (by omega)
          exact ⟨_, k0, rfl, by rw [k1, e]; rfl, by rw [k2]; rfl⟩
      have inn : ∃ q, isPl (closX w A) q ∧ q.1 = nxT w (k + 1) p ∧ Kn.at_ (closX w A) q = (labC w N (nxT w (k + 1) p) p : Nat) ∧ cm (closX w A) q = true := by
        rcases hm.2 with e | e
        · obtain ⟨k0, k1, k2⟩ := h.leg hm.1 (r := 0) (by omega)
          refine ⟨_, k0, rfl, ?_, by rw [k2]; rfl⟩
          rw [k1]
          show ((labC w N (nxT w (k + 1) p) (iw w (nxT w (k + 1) p)) : Nat) : Int) = _
          rw [← e]
        · obtain ⟨k0, k1, k2⟩ := h.leg hm.1 (r := 1) (by omega)
          refine ⟨_, k0, rfl, ?_, by rw [k2]; rfl⟩
          rw [k1]
          show ((labC w N (nxT w (k + 1) p) (iw w (nxT w (k + 1) p) + 1) : Nat) : Int) = _
          rw [← e]
      obtain ⟨q, q0, q1, q2, q3⟩ := out
      obtain ⟨r, r0, r1, r2, r3⟩ := inn
      have eo : Kn.other (closX w A) q = r := hX.other_of q0 r0 (by rw [q3, r3]; rfl) (by
        rw [q2, r2]
        unfold labC
        rw [nxT_touch hm])
      have l1 : Ln (closX w A) (k, 0) q := Ln.round ⟨by rw [closX_len]; exact hkl, by omega⟩ q0.2 q1.symm
      have l2 := hX.ln_other q0
      rw [eo] at l2
      have l3 : Ln (closX w A) r (nxT w (k + 1) p, 0) := Ln.round r0 (by simp) r1
      exact (l1.trans l2).trans (l3.trans (Clo.near h d _ j (by omega) hm hj m2))
theorem Clo.near2 (h : Clo w A N) {p k j : Nat} (hk : Tch w k p) (hj : Tch w j p) : Ln (closX w A) (k, 0) (j, 0) := by
  rcases Nat.le_total k j with c | c
  · exact h.near j k j (by omega) hk hj c
  · exact (h.near k j k (by omega) hj hk c).symm
def firstC (w : List Int) (c : Nat) : Nat := ((List.range w.length).find? fun k => decide ((w.getD k 0).natAbs = c)).getD 0
theorem firstC_is {w : List Int} {c : Nat} (h : mC w c ≠ 0) : firstC w c < w.length ∧ (w.getD (firstC w c) 0).natAbs = c := by
  obtain ⟨k, hk, e⟩ := mC_pos h
  unfold firstC
  cases hf : (List.range w.length).find? fun k => decide ((w.getD k 0).natAbs = c) with
  | none =>
    have := List.find?_eq_none.1 hf k (List.mem_range.2 hk)
    exact absurd (decide_eq_true e) this
  | some j =>
    have h1 := List.find?_some hf
    have h2 := List.mem_of_find?_eq_some hf
    exact ⟨List.mem_range.1 h2, of_decide_eq_true h1⟩
theorem Clo.run (h : Clo w A N) (hw : LetsM n w) : ∀ (c k : Nat), k < w.length → (w.getD k 0).natAbs = c → ∃ e ∈ (startsC n w).map fun c => (firstC w (c + 1), 0), Ln (closX w A) e (k, 0)
  | 0, k, hk, e => by have := (hw.iw hk).1; omega
  | c + 1, k, hk, e => by
    obtain ⟨i1, i2⟩ := hw.iw hk
    have hm : mC w (c + 1) ≠ 0 := by
      have := cbC_lt hk
      rw [e] at this; omega
    have tk : Tch w k c := ⟨hk, .inl (by omega)⟩
    by_cases c0 : mC w c = 0
    · refine ⟨(firstC w (c + 1), 0), List.mem_map.2 ⟨c, List.mem_filter.2 ⟨List.mem_range.2 (by omega), by simp [c0, hm]⟩, rfl⟩, ?_⟩
      obtain ⟨f1, f2⟩ := firstC_is hm
      obtain ⟨j1, _⟩ := hw.iw f1
      exact h.near2 (p := c) ⟨f1, .inl (by omega)⟩ tk
    · obtain ⟨j, hj, ej⟩ := mC_pos c0
      obtain ⟨e', he', hL⟩ := Clo.run h hw c j hj ej
      obtain ⟨j1, _⟩ := hw.iw hj
      exact ⟨e', he', hL.trans (h.near2 (p := c) ⟨hj, .inr (by omega)⟩ tk)⟩
theorem Clo.pieces (h : Clo w A N) (hw : LetsM n w) : (piecesL (closX w A)).length ≤ (startsC n w).length := by
  have hX := h.ok
  rw [← hX.cl_pieces]
  have hE := com_equiv (sig_pm (closX w A).length) (ens (closX w A))
  have := cl_le (N := 0) (M := 4 * (closX w A).length) (R := Eq) (R' := pie (closX w A)) ⟨fun _ => rfl, fun h => h.symm, fun h k => h.trans k⟩ hE (f := fun x => x) (fun x y hx => by omega) (es := ((startsC n w).map fun c => (firstC w (c + 1), 0)).map pk) fun z hz => by
    have hp : isPl (closX w A) (pl z) := isPl_pl hz
    have hk : (pl z).1 < w.length := by have := hp.1; rw [closX_len] at this; exact this
    obtain ⟨e, he, hL⟩ := h.run hw _ (pl z).1 hk rfl
    refine .inr ⟨pk e, List.mem_map.2 ⟨e, he, rfl⟩, ?_⟩
    have h2 := hL.trans (Ln.round (X := closX w A) (p := ((pl z).1, 0)) (q := pl z) ⟨hp.1, by omega⟩ hp.2 rfl)
    unfold Ln at h2
    rwa [show pk (pl z) = z by unfold pk pl; simp only; omega] at h2
  rw [List.length_map, List.length_map] at this
  have h0 : cl 0 Eq = 0 := rfl
  omega
theorem Clo.planar (h : Clo w A N) (hw : LetsM n w) : planarB (closX w A) = true := by
  have hX := h.ok
  rw [hX.planar_iff]
  have h1 := h.faces hw
  have h2 := h.pieces hw
  have h3 := hX.euler.1
  have h4 := start_end w (mC_zero hw).1 n
  rw [if_pos (mC_zero hw).2] at h4
  rw [closX_len] at h3 ⊢
  omega
end
end Go.Proofs.YtdelekkbkpldjaaDoor.Kn

/- Overpasses of a diagram; those of a closed word's, plain: what the levels' unknowns are merged to. -/
namespace Go.Proofs.YtdelekkbkpldjaaDoor.Kn
set_option linter.unusedVariables false

def clsP (X : List Cr) : Nat → Nat → Nat
  | 0 => fun a => a
  | k + 1 => joinF (clsP X k) (arcN X (k, 1)) (arcN X (k, 3))
def prsP (X : List Cr) : Nat → Prs
  | 0 => []
  | k + 1 => (arcN X (k, 1), arcN X (k, 3)) :: prsP X k
/-- The number of a class by its root; how many roots. -/
def ovN (f : Nat → Nat) (r : Nat) : Nat := (List.range (r - 1)).countP fun b => decide (f (b + 1) = b + 1)
def ovM (f : Nat → Nat) (m : Nat) : Nat := (List.range m).countP fun b => decide (f (b + 1) = b + 1)
def overP (X : List Cr) (a : Nat) : Nat := ovN (clsP X X.length) (clsP X X.length a)
def manyP (X : List Cr) : Nat := ovM (clsP X X.length) (nArcs X)
def aTo (X : List Cr) (k : Nat) : Nat := arcN X (k, if (cr X k).p then 2 else 0)
def aIn (X : List Cr) (k : Nat) : Nat := arcN X (k, if (cr X k).p then 0 else 2)
def arow (t : Rat) (X : List Cr) (k : Nat) : Row := fun c =>
  (if overP X (aTo X k) = c then 1 else 0) + -t * (if overP X (aIn X k) = c then 1 else 0) + (t - 1) * (if overP X (arcN X (k, 1)) = c then 1 else 0)
theorem ovM_succ (f : Nat → Nat) (m : Nat) : ovM f (m + 1) = ovM f m + if f (m + 1) = m + 1 then 1 else 0 := by
  unfold ovM
  rw [List.range_succ, List.countP_append, List.countP_cons, List.countP_nil]; simp
theorem ovM_mono (f : Nat → Nat) {j : Nat} : ∀ {k : Nat}, j ≤ k → ovM f j ≤ ovM f k
  | 0, h => by rw [show j = 0 by omega]; exact Nat.le_refl _
  | k + 1, h => by
    by_cases e : j = k + 1
    · rw [e]; exact Nat.le_refl _
    · have := ovM_mono f (j := j) (k := k) (by omega)
      rw [ovM_succ]; omega
theorem ovN_eq (f : Nat → Nat) (r : Nat) : ovN f r = ovM f (r - 1) := rfl
theorem ovN_lt {f : Nat → Nat} {r m : Nat} (h1 : 1 ≤ r) (hr : f r = r) (hm : r ≤ m) : ovN f r < ovM f m := by
  have h := ovM_succ f (r - 1)
  rw [show r - 1 + 1 = r by omega, if_pos hr] at h
  have := ovM_mono f hm
  rw [ovN_eq]; omega
theorem ovN_inj {f : Nat → Nat} {r s : Nat} (h1 : 1 ≤ r) (h2 : 1 ≤ s) (hr : f r = r) (hs : f s = s) (e : ovN f r = ovN f s) : r = s := by
  rcases Nat.lt_trichotomy r s with c | c | c
  · have := ovN_lt h1 hr (show r ≤ s - 1 by omega)
    rw [ovN_eq f s] at e; omega
  · exact c
  · have := ovN_lt h2 hs (show s ≤ r - 1 by omega)
    rw [ovN_eq f r] at e; omega
theorem ovN_onto {f : Nat → Nat} {c : Nat} : ∀ {m : Nat}, c < ovM f m → ∃ r, 1 ≤ r ∧ r ≤ m ∧ f r = r ∧ ovN f r = c
  | 0, h => by simp [ovM] at h
  | m + 1, h => by
    by_cases d : c < ovM f m
    · obtain ⟨r, h1, h2, h3⟩ := ovN_onto d
      exact ⟨r, h1, by omega, h3⟩
    · rw [ovM_succ] at h
      by_cases e : f (m + 1) = m + 1
      · rw [if_pos e] at h
        exact ⟨m + 1, by omega, Nat.le_refl _, e, by rw [ovN_eq]; simp; omega⟩
      · rw [if_neg e] at h; omega
section
variable {X : List Cr}
theorem Ok.cls_rep (h : Ok X) : ∀ k, k ≤ X.length → Rep (clsP X k) (com (fun x => x) (prsP X k))
  | 0, _ => Rep.id
  | k + 1, hk => (h.cls_rep k (by omega)).join (h.isArc (p := (k, 1)) ⟨by show k < _; omega, by show 1 < 4; omega⟩).1 (h.isArc (p := (k, 3)) ⟨by show k < _; omega, by show 3 < 4; omega⟩).1
theorem mem_prsP {e : Nat × Nat} : ∀ {k : Nat}, e ∈ prsP X k ↔ ∃ c, c < k ∧ e = (arcN X (c, 1), arcN X (c, 3))
  | 0 => by simp [prsP]
  | k + 1 => by
    rw [prsP, List.mem_cons, mem_prsP]
    constructor
    · rintro (h | ⟨c, h1, h2⟩)
      · exact ⟨k, by omega, h⟩
      · exact ⟨c, by omega, h2⟩
    · rintro ⟨c, h1, h2⟩
      by_cases e : c = k
      · subst e; exact .inl h2
      · exact .inr ⟨c, by omega, h2⟩
theorem id_pm (N : Nat) : Pm N (fun x => x) := ⟨fun _ h => h, fun _ _ => rfl, fun _ _ h => h⟩
end
section
variable {n : Nat} {w : List Int} {A : List Nat} {N : Nat × Nat → Nat}
theorem Clo.arcs (h : Clo w A N) {k : Nat} (hk : k < w.length) : (∀ r, r < 4 → arcN (closX w A) (ofR w k r) = labC w N (k + if r < 2 then 0 else 1) (iw w k + if r = 1 ∨ r = 2 then 1 else 0)) := fun r hr => by
  unfold arcN
  rw [(h.leg hk hr).2.1]; rfl
theorem closX_p {k : Nat} (hk : k < w.length) : (cr (closX w A) k).p = decide (0 < w.getD k 0) := by
  rw [closX_cr hk]
  unfold mkC
  by_cases c : 0 < w.getD k 0
  · rw [if_pos c, decide_eq_true c]
  · rw [if_neg c, decide_eq_false c]
/-- The levels' number of a row's unknowns. -/
def labV (n : Nat) (w : List Int) (N : Nat × Nat → Nat) (v : Nat) : Nat := labC w N (v / n) (v % n)
theorem labV_lv {k p : Nat} (hp : p < n) : labV n w N (lv n k p) = labC w N k p := by
  unfold labV
  obtain ⟨e1, e2⟩ := lv_div (k := k) hp
  rw [e1, e2]
theorem ofR_eq {k r s : Nat} (e : (r + if 0 < w.getD k 0 then 3 else 0) % 4 = s) : ofR w k r = (k, s) := by unfold ofR; rw [e]
theorem Clo.unk (h : Clo w A N) (hw : LetsM n w) {k : Nat} (hk : k < w.length) :
    labV n w N (toV n w k) = aTo (closX w A) k ∧ labV n w N (inV n w k) = aIn (closX w A) k ∧ labV n w N (ovV n w k) = arcN (closX w A) (k, 1) := by
  obtain ⟨i1, i2⟩ := hw.iw hk
  have hiw : (w.getD k 0).natAbs - 1 = iw w k := rfl
  have ha := h.arcs hk
  have a0 := ha 0 (by omega)
  have a1 := ha 1 (by omega)
  have a2 := ha 2 (by omega)
  have a3 := ha 3 (by omega)
  unfold aTo aIn toV inV ovV
  rw [closX_p hk, hiw]
  by_cases c : 0 < w.getD k 0
  · simp only [if_pos c, decide_eq_true c, if_true]
    rw [ofR_eq (s := 3) (by rw [if_pos c])] at a0
    rw [ofR_eq (s := 0) (by rw [if_pos c])] at a1
    rw [ofR_eq (s := 1) (by rw [if_pos c])] at a2
    rw [ofR_eq (s := 2) (by rw [if_pos c])] at a3
    rw [labV_lv (by omega), labV_lv (by omega), labV_lv (by omega), a1, a2, a3]
    exact ⟨rfl, rfl, rfl⟩
  · simp only [if_neg c, decide_eq_false c, if_false, Bool.false_eq_true]
    rw [ofR_eq (s := 0) (by rw [if_neg c])] at a0
    rw [ofR_eq (s := 1) (by rw [if_neg c])] at a1
    rw [ofR_eq (s := 2) (by rw [if_neg c])] at a2
    rw [ofR_eq (s := 3) (by rw [if_neg c])] at a3
    rw [labV_lv (by omega), labV_lv (by omega), labV_lv (by omega), a0, a1, a2]
    exact ⟨rfl, rfl, rfl⟩
/-- THE DIAGRAM'S ROWS ARE THE MERGED ONES. -/
theorem Clo.row (h : Clo w A N) (hw : LetsM n w) (t : Rat) {k : Nat} (hk : k < w.length) : prow t n w (fun v => overP (closX w A) (labV n w N v)) k = arow t (closX w A) k := by
  obtain ⟨e1, e2, e3⟩ := h.unk hw hk
  unfold prow arow
  simp only [e1, e2, e3]
theorem EE_untch (hw : LetsM n w) {k p : Nat} (hk : k < w.length) (hp : p < n) (ht : ¬ Tch w k p) : Tie (EE n w) (lv n (k + 1) p) (lv n k p) := by
  refine .pair ?_
  unfold EE
  refine List.mem_append_left _ (List.mem_flatMap.2 ⟨k, List.mem_range.2 hk, List.mem_map.2 ⟨p, ?_, ?_⟩⟩)
  · refine List.nodup_range.mem_erase_iff.2 ⟨fun e => ht ⟨hk, ?_⟩, List.mem_range.2 hp⟩
    have := (hw.iw hk).1
    unfold lowAt at e
    split at e <;> omega
  · have : sameAs (w.getD k 0) p = p := by
      have h1 := (hw.iw hk).1
      have h2 : ¬ (p = iw w k ∨ p = iw w k + 1) := fun e => ht ⟨hk, e⟩
      unfold sameAs
      split
      · rw [if_neg (by omega)]
      · rw [if_neg (by omega)]
    rw [this]
theorem EE_round {p : Nat} (hp : p < n) : Tie (EE n w) (lv n w.length p) (lv n 0 p) :=
  .pair (List.mem_append_right _ (List.mem_map.2 ⟨p, List.mem_range.2 hp, rfl⟩))
/-- What a strand above is told to be. -/
theorem EE_over (hw : LetsM n w) {k : Nat} (hk : k < w.length) : if 0 < w.getD k 0 then Tie (EE n w) (lv n (k + 1) (iw w k + 1)) (lv n k (iw w k)) else Tie (EE n w) (lv n (k + 1) (iw w k)) (lv n k (iw w k + 1)) := by
  obtain ⟨h1, h2⟩ := hw.iw hk
  have mk : ∀ p q, p < n → p ≠ lowAt (w.getD k 0) → sameAs (w.getD k 0) p = q → Tie (EE n w) (lv n (k + 1) p) (lv n k q) := fun p q hp hl hs => by
    refine .pair ?_
    unfold EE
    exact List.mem_append_left _ (List.mem_flatMap.2 ⟨k, List.mem_range.2 hk, List.mem_map.2 ⟨p, List.nodup_range.mem_erase_iff.2 ⟨hl, List.mem_range.2 hp⟩, by rw [hs]⟩⟩)
  by_cases c : 0 < w.getD k 0
  · rw [if_pos c]
    refine mk _ _ (by omega) ?_ ?_
    · unfold lowAt; rw [if_pos c]; omega
    · unfold sameAs; rw [if_pos c, if_pos (by omega)]; omega
  · rw [if_neg c]
    refine mk _ _ (by omega) ?_ ?_
    · unfold lowAt; rw [if_neg c]; omega
    · unfold sameAs; rw [if_neg c, if_pos (by omega)]; omega
theorem Tie_up (hw : LetsM n w) {p : Nat} (hp : p < n) : ∀ d k, k + d = w.length → Tie (EE n w) (lv n (upT w p d k) p) (lv n k p)
  | 0, k, _ => .refl _
  | d + 1, k, hk => by
    unfold upT
    split
    · exact .refl _
    · rename_i hn
      exact (Tie_up hw hp d (k + 1) (by omega)).trans (EE_untch hw (by omega) hp hn)
theorem Tie_nx (hw : LetsM n w) {p k : Nat} (hp : p < n) (hk : k ≤ w.length) : Tie (EE n w) (lv n (nxT w k p) p) (lv n k p) := by
  have h1 := Tie_up hw hp (w.length - k) k (by omega)
  unfold nxT
  split
  · exact h1
  · have h2 := upT_le w p (w.length - k) k
    rw [show upT w p (w.length - k) k = w.length by omega] at h1
    exact ((Tie_up hw hp w.length 0 (by omega)).trans (EE_round hp).symm).trans h1
/-- One number, one thing. -/
theorem Clo.tie (h : Clo w A N) (hw : LetsM n w) (hf : ∀ p, p < n → ¬ Free w p) {u v : Nat} (hu : u ∈ VV n w) (hv : v ∈ VV n w) (e : labV n w N u = labV n w N v) : Tie (EE n w) u v := by
  have dec : ∀ u, u ∈ VV n w → ∃ k p, k ≤ w.length ∧ p < n ∧ u = lv n k p := fun u hu => by
    have hu := List.mem_range.1 hu
    have hn : 0 < n := by
      rcases Nat.eq_zero_or_pos n with c | c
      · subst c; simp at hu
      · exact c
    refine ⟨u / n, u % n, ?_, Nat.mod_lt _ hn, ?_⟩
    · have := Nat.div_lt_of_lt_mul (show u < n * (w.length + 1) by rw [Nat.mul_comm]; exact hu)
      omega
    · show u = u / n * n + u % n
      have := Nat.div_add_mod u n
      rw [Nat.mul_comm] at this; omega
  obtain ⟨k, p, hk, hp, rfl⟩ := dec u hu
  obtain ⟨k', p', hk', hp', rfl⟩ := dec v hv
  rw [labV_lv hp, labV_lv hp'] at e
  have ex : ∀ p, p < n → ∃ j, Tch w j p := fun p hp => Classical.byContradiction fun c => hf p hp fun j hj => c ⟨j, hj⟩
  obtain ⟨e1, e2⟩ := h.lab_inj hk hk' (ex p hp) (ex p' hp') e
  subst e2
  have t1 := Tie_nx hw hp hk
  have t2 := Tie_nx hw hp hk'
  rw [← e1] at t2
  exact t1.symm.trans t2
theorem Clo.lab_arc (h : Clo w A N) (hf : ∀ p, p < n → ¬ Free w p) {k p : Nat} (hk : k ≤ w.length) (hp : p < n) : 1 ≤ labC w N k p ∧ labC w N k p ≤ 2 * w.length := by
  have ex : ∃ j, Tch w j p := Classical.byContradiction fun c => hf p hp fun j hj => c ⟨j, hj⟩
  exact h.rng (nxT w k p, p) (nxT_is ex hk)
theorem VV_dec {u : Nat} (hu : u ∈ VV n w) : ∃ k p, k ≤ w.length ∧ p < n ∧ u = lv n k p := by
  have hu := List.mem_range.1 hu
  have hn : 0 < n := by
    rcases Nat.eq_zero_or_pos n with c | c
    · subst c; simp at hu
    · exact c
  refine ⟨u / n, u % n, ?_, Nat.mod_lt _ hn, ?_⟩
  · have := Nat.div_lt_of_lt_mul (show u < n * (w.length + 1) by rw [Nat.mul_comm]; exact hu)
    omega
  · show u = u / n * n + u % n
    have := Nat.div_add_mod u n
    rw [Nat.mul_comm] at this; omega
/-- THE OVERPASSES ARE WHAT THE LEVELS' UNKNOWNS ARE MERGED TO. -/
theorem Clo.quo (h : Clo w A N) (hw : LetsM n w) (hf : ∀ p, p < n → ¬ Free w p) : Quo (VV n w) (EE n w) (fun v => overP (closX w A) (labV n w N v)) (List.range (manyP (closX w A))) := by
  have hX := h.ok
  have hR := hX.cls_rep (closX w A).length (Nat.le_refl _)
  have hE := com_equiv (id_pm 0) (prsP (closX w A) (closX w A).length)
  have hn : nArcs (closX w A) = 2 * w.length := by unfold nArcs; rw [closX_len]
  have larc : ∀ v ∈ VV n w, 1 ≤ labV n w N v ∧ labV n w N v ≤ 2 * w.length := fun v hv => by
    obtain ⟨k, p, hk, hp, rfl⟩ := VV_dec hv
    rw [labV_lv hp]; exact h.lab_arc hf hk hp
  -- arcs that are tied
  have RE : Equivalence fun a b : Nat => a = b ∨ ∃ u v, u ∈ VV n w ∧ v ∈ VV n w ∧ labV n w N u = a ∧ labV n w N v = b ∧ Tie (EE n w) u v := by
    refine ⟨fun _ => .inl rfl, fun {a b} k => ?_, fun {a b c} k l => ?_⟩
    · rcases k with k | ⟨u, v, h1, h2, h3, h4, h5⟩
      · exact .inl k.symm
      · exact .inr ⟨v, u, h2, h1, h4, h3, h5.symm⟩
    · rcases k with rfl | ⟨u, v, h1, h2, h3, h4, h5⟩
      · exact l
      · rcases l with rfl | ⟨u', v', k1, k2, k3, k4, k5⟩
        · exact .inr ⟨u, v, h1, h2, h3, h4, h5⟩
        · exact .inr ⟨u, v', h1, k2, h3, k4, (h5.trans (h.tie hw hf h2 k1 (h4.trans k3.symm))).trans k5⟩
  have tied : ∀ u ∈ VV n w, ∀ v ∈ VV n w, com (fun x => x) (prsP (closX w A) (closX w A).length) (labV n w N u) (labV n w N v) → Tie (EE n w) u v := fun u hu v hv k => by
    have := com_least RE (fun x => .inl rfl) (fun e he => ?_) k
    · rcases this with e | ⟨u', v', h1, h2, h3, h4, h5⟩
      · exact h.tie hw hf hu hv e
      · exact ((h.tie hw hf hu h1 h3.symm).trans h5).trans (h.tie hw hf h2 hv h4)
    · obtain ⟨c, hc, rfl⟩ := mem_prsP.1 he
      rw [closX_len] at hc
      obtain ⟨i1, i2⟩ := hw.iw hc
      have ho := EE_over hw hc
      have ha := h.arcs hc
      have m : ∀ {k p}, k ≤ w.length → p < n → lv n k p ∈ VV n w := fun hk hp => lv_mem hk hp
      by_cases cs : 0 < w.getD c 0
      · rw [if_pos cs] at ho
        have a2 := ha 2 (by omega)
        have a0 := ha 0 (by omega)
        rw [ofR_eq (s := 3) (by rw [if_pos cs])] at a0
        rw [ofR_eq (s := 1) (by rw [if_pos cs])] at a2
        refine .inr ⟨_, _, m (by omega) (by omega), m (by omega) (by omega), ?_, ?_, ho⟩
        · rw [labV_lv (by omega), a2]; rfl
        · rw [labV_lv (by omega), a0]; rfl
      · rw [if_neg cs] at ho
        have a1 := ha 1 (by omega)
        have a3 := ha 3 (by omega)
        rw [ofR_eq (s := 1) (by rw [if_neg cs])] at a1
        rw [ofR_eq (s := 3) (by rw [if_neg cs])] at a3
        refine .inr ⟨_, _, m (by omega) (by omega), m (by omega) (by omega), ?_, ?_, ho.symm⟩
        · rw [labV_lv (by omega), a1]; rfl
        · rw [labV_lv (by omega), a3]; rfl
  have root : ∀ a, 1 ≤ a → a ≤ 2 * w.length → 1 ≤ clsP (closX w A) (closX w A).length a ∧ clsP (closX w A) (closX w A).length a ≤ 2 * w.length := fun a h1 h2 => by
    have := hR.pos a h1
    have := hR.le a
    omega
  have over_eq : ∀ a b, 1 ≤ a → 1 ≤ b → overP (closX w A) a = overP (closX w A) b → com (fun x => x) (prsP (closX w A) (closX w A).length) a b := fun a b ha hb e => by
    rw [← hR.iff]
    exact ovN_inj (hR.pos a ha) (hR.pos b hb) (hR.idem a) (hR.idem b) e
  have over_of : ∀ a b, com (fun x => x) (prsP (closX w A) (closX w A).length) a b → overP (closX w A) a = overP (closX w A) b := fun a b k => by
    unfold overP
    rw [(hR.iff a b).2 k]
  have pair : ∀ {c}, c < w.length → com (fun x => x) (prsP (closX w A) (closX w A).length) (arcN (closX w A) (c, 1)) (arcN (closX w A) (c, 3)) := fun {c} hc =>
    com_pair (id_pm 0) (e := (arcN (closX w A) (c, 1), arcN (closX w A) (c, 3))) (mem_prsP.2 ⟨c, by rw [closX_len]; exact hc, rfl⟩)
  refine ⟨List.nodup_range, List.nodup_range, fun v hv => ?_, fun c hc => ?_, fun e he => ?_, fun e he => ?_, fun u hu v hv e => ?_⟩
  · obtain ⟨h1, h2⟩ := larc v hv
    obtain ⟨r1, r2⟩ := root _ h1 h2
    exact List.mem_range.2 (ovN_lt r1 (hR.idem _) (by rw [hn]; exact r2))
  · obtain ⟨r, r1, r2, r3, r4⟩ := ovN_onto (List.mem_range.1 hc)
    rw [hn] at r2
    obtain ⟨x, hx, e⟩ := hit_all h.rng h.inj r1 r2
    obtain ⟨k, p⟩ := x
    have hxt : Tch w k p := hx
    have hpn : p < n := by
      have := (hw.iw hxt.1).2
      have := hxt.2; omega
    refine ⟨lv n k p, lv_mem (by have := hxt.1; omega) hpn, ?_⟩
    show overP (closX w A) (labV n w N (lv n k p)) = c
    rw [labV_lv hpn, labC, nxT_touch hxt, e]
    unfold overP
    rw [r3, r4]
  · unfold EE at he
    rcases List.mem_append.1 he with he | he
    · obtain ⟨k, hk, he⟩ := List.mem_flatMap.1 he
      obtain ⟨p, hp, rfl⟩ := List.mem_map.1 he
      have hk := List.mem_range.1 hk
      have hp := List.mem_range.1 (List.mem_of_mem_erase hp)
      exact ⟨lv_mem (by omega) hp, lv_mem (by omega) ((hw _ (getD_mem0 hk)).same hp)⟩
    · obtain ⟨p, hp, rfl⟩ := List.mem_map.1 he
      have hp := List.mem_range.1 hp
      exact ⟨lv_mem (by omega) hp, lv_mem (by omega) hp⟩
  · unfold EE at he
    rcases List.mem_append.1 he with he | he
    · obtain ⟨k, hk, he⟩ := List.mem_flatMap.1 he
      obtain ⟨p, hp, rfl⟩ := List.mem_map.1 he
      have hk := List.mem_range.1 hk
      have hl := (List.nodup_range.mem_erase_iff.1 hp).1
      have hp := List.mem_range.1 (List.mem_of_mem_erase hp)
      obtain ⟨i1, i2⟩ := hw.iw hk
      have ha := h.arcs hk
      have hs := (hw _ (getD_mem0 hk)).same hp
      show overP (closX w A) (labV n w N (lv n (k + 1) p)) = overP (closX w A) (labV n w N (lv n k (sameAs (w.getD k 0) p)))
      rw [labV_lv hp, labV_lv hs]
      by_cases ct : Tch w k p
      · have h2 := ct.2
        by_cases cs : 0 < w.getD k 0
        · have a2 := ha 2 (by omega)
          have a0 := ha 0 (by omega)
          rw [ofR_eq (s := 3) (by rw [if_pos cs])] at a0
          rw [ofR_eq (s := 1) (by rw [if_pos cs])] at a2
          unfold lowAt at hl
          rw [if_pos cs] at hl
          have ep : p = iw w k + 1 := by omega
          have es : sameAs (w.getD k 0) p = iw w k := by
            unfold sameAs; rw [if_pos cs, if_pos (by omega)]; omega
          rw [es, ep]
          have := over_of _ _ (pair hk)
          rw [a2, a0] at this
          exact this
        · have a1 := ha 1 (by omega)
          have a3 := ha 3 (by omega)
          rw [ofR_eq (s := 1) (by rw [if_neg cs])] at a1
          rw [ofR_eq (s := 3) (by rw [if_neg cs])] at a3
          unfold lowAt at hl
          rw [if_neg cs] at hl
          have ep : p = iw w k := by omega
          have es : sameAs (w.getD k 0) p = iw w k + 1 := by
            unfold sameAs; rw [if_neg cs, if_pos (by omega)]; omega
          rw [es, ep]
          have := over_of _ _ (pair hk)
          rw [a1, a3] at this
          exact this.symm
      · have es : sameAs (w.getD k 0) p = p := by
          have h2 : ¬ (p = iw w k ∨ p = iw w k + 1) := fun e => ct ⟨hk, e⟩
          unfold sameAs
          split
          · rw [if_neg (by omega)]
          · rw [if_neg (by omega)]
        rw [es]
        unfold labC
        rw [nxT_on hk ct]
    · obtain ⟨p, hp, rfl⟩ := List.mem_map.1 he
      have hp := List.mem_range.1 hp
      show overP (closX w A) (labV n w N (lv n w.length p)) = overP (closX w A) (labV n w N (lv n 0 p))
      rw [labV_lv hp, labV_lv hp]
      unfold labC
      rw [nxT_round]
  · obtain ⟨h1, _⟩ := larc u hu
    obtain ⟨h2, _⟩ := larc v hv
    exact tied u hu v hv (over_eq _ _ h1 h2 e)
end
end Go.Proofs.YtdelekkbkpldjaaDoor.Kn

/- What Alexander's rows of a closed word's diagram tell, plain: what the word's table tells. -/
namespace Go.Proofs.YtdelekkbkpldjaaDoor.Kn
set_option linter.unusedVariables false

def alexV (t : Rat) (X : List Cr) (L : Nat) : Rat :=
  if X.length = 0 then (if L = 1 then 1 else 0)
  else if 0 < L then 0
  else if manyP X = X.length then Dv ((List.range (X.length - 1)).map (arow t X)) (List.range (X.length - 1))
  else if manyP X = X.length + 1 then Dv ((List.range X.length).map (arow t X)) (List.range X.length)
  else 0
theorem FA_AL (t : Rat) (n : Nat) (w : List Int) : FA t n w (n - 1) (n - 1) = AL t n w := by
  rw [FA_FG, lev_all]; rfl
theorem Free.not {w : List Int} {p : Nat} (h : Free w p) {a : Int} (ha : a ∈ w) (h0 : a ≠ 0) : p ≠ a.natAbs - 1 ∧ p ≠ a.natAbs := by
  obtain ⟨k, hk, rfl⟩ := List.getElem_of_mem ha
  have e : w.getD k 0 = w[k] := by rw [List.getD_eq_getElem?_getD, List.getElem?_eq_getElem hk]; rfl
  have hn := h k
  unfold Tch at hn
  have hi : iw w k = w[k].natAbs - 1 := by unfold iw; rw [e]
  have : w[k].natAbs ≠ 0 := fun e => h0 (Int.natAbs_eq_zero.1 e)
  rw [hi] at hn
  constructor
  · intro e; exact hn ⟨hk, .inl e⟩
  · intro e; exact hn ⟨hk, .inr (by omega)⟩
theorem Clo.alex {n : Nat} {w : List Int} {A : List Nat} {N : Nat × Nat → Nat} (h : Clo w A N) (hw : LetsM n w) (hn : 2 ≤ n) {t : Rat} (ht : t ≠ 0) : Eu t (alexV t (closX w A) ((List.range n).countP (freeB w))) (AL t n w) := by
  by_cases hl : 0 < (List.range n).countP (freeB w)
  · obtain ⟨p, hp, hf⟩ := List.countP_pos_iff.1 hl
    have hp := List.mem_range.1 hp
    have hf := freeB_iff.1 hf
    have hz : AL t n w = 0 := AL_free ht hn hw hp fun a ha => hf.not ha (hw a ha).ne
    have hv : alexV t (closX w A) ((List.range n).countP (freeB w)) = 0 := by
      unfold alexV
      by_cases c : (closX w A).length = 0
      · rw [if_pos c, if_neg]
        rw [closX_len] at c
        have : (List.range n).countP (freeB w) = n := by
          have e1 : (List.range n).countP (freeB w) = (List.range n).length := List.countP_eq_length.2 fun q _ => freeB_iff.2 fun k hk => by have := hk.1; omega
          rw [e1, List.length_range]
        omega
      · rw [if_neg c, if_pos hl]
    rw [hz, hv]
    exact ⟨1, .one t, by grind⟩
  · have hf : ∀ p, p < n → ¬ Free w p := fun p hp k => hl (List.countP_pos_iff.2 ⟨p, List.mem_range.2 hp, freeB_iff.2 k⟩)
    have hq := h.quo hw hf
    have hne : w.length ≠ 0 := fun e => hf 0 (by omega) fun k hk => by have := hk.1; omega
    obtain ⟨L, hL⟩ : ∃ L, w.length = L + 1 := ⟨w.length - 1, by omega⟩
    obtain ⟨d1, d2, d3⟩ := clos_det ht hw.lets (b := n - 1) (p0 := n - 1) (by omega) (by omega) hL hq
    rw [FA_AL] at d1 d2
    have hr : ∀ m, m ≤ w.length → (List.range m).map (prow t n w fun v => overP (closX w A) (labV n w N v)) = (List.range m).map (arow t (closX w A)) := fun m hm =>
      List.map_congr_left fun k hk => h.row hw t (by have := List.mem_range.1 hk; omega)
    unfold alexV
    rw [closX_len, if_neg hne, if_neg hl]
    by_cases c : manyP (closX w A) = w.length
    · rw [if_pos c]
      have := d1 (by omega)
      rw [hr L (by omega)] at this
      rw [show w.length - 1 = L by omega]
      exact this.symm ht
    · rw [if_neg c]
      have hz := d2 (by omega)
      rw [hz]
      by_cases c2 : manyP (closX w A) = w.length + 1
      · rw [if_pos c2, ← hr w.length (Nat.le_refl _), hL, d3]
        exact ⟨1, .one t, by grind⟩
      · rw [if_neg c2]
        exact ⟨1, .one t, by grind⟩
end Go.Proofs.YtdelekkbkpldjaaDoor.Kn

/- Letters undone, plain: how many rings, by labels of places at levels. -/
namespace Go.Proofs.YtdelekkbkpldjaaDoor.Kn
set_option linter.unusedVariables false

/-- A letter undone: the strands go on, or those at i and i + 1 are turned back. -/
abbrev Op := Option Nat
def opR (n : Nat) : Op → (Nat → Nat) → (Nat → Nat) → Prop
  | none, x, y => ∀ p, p < n → y p = x p
  | some i, x, y => x i = x (i + 1) ∧ y i = y (i + 1) ∧ ∀ p, p < n → p ≠ i → p ≠ i + 1 → y p = x p
/-- Labels from level to level, and which labels there are. -/
def Run (n : Nat) : List Op → (Nat → Nat) → (Nat → Nat) → (Nat → Prop) → Prop
  | [], x, y, V => (∀ p, p < n → y p = x p) ∧ ∀ v, V v ↔ ∃ p, p < n ∧ x p = v
  | o :: os, x, y, V => ∃ z U, opR n o x z ∧ Run n os z y U ∧ ∀ v, V v ↔ U v ∨ ∃ p, p < n ∧ x p = v
def At (n : Nat) (x : Nat → Nat) (v : Nat) : Prop := ∃ p, p < n ∧ x p = v
def Cl (n : Nat) (os : List Op) (V : Nat → Prop) : Prop := ∃ x, Run n os x x V

theorem opR_congr {n : Nat} {o : Op} {x y x' y' : Nat → Nat} (ho : ∀ i, o = some i → i + 1 < n) (hx : ∀ p, p < n → x' p = x p) (hy : ∀ p, p < n → y' p = y p) (h : opR n o x y) : opR n o x' y' := by
  cases o with
  | none => intro p hp; rw [hx p hp, hy p hp]; exact h p hp
  | some i =>
    have := ho i rfl
    refine ⟨?_, ?_, fun p hp h1 h2 => ?_⟩
    · rw [hx i (by omega), hx (i + 1) this]; exact h.1
    · rw [hy i (by omega), hy (i + 1) this]; exact h.2.1
    · rw [hx p hp, hy p hp]; exact h.2.2 p hp h1 h2
def Ops (n : Nat) (os : List Op) : Prop := ∀ i, some i ∈ os → i + 1 < n
theorem Ops.head {n : Nat} {o : Op} {os : List Op} (h : Ops n (o :: os)) : ∀ i, o = some i → i + 1 < n := fun i e => h i (by rw [e]; exact List.mem_cons_self)
theorem Ops.tail {n : Nat} {o : Op} {os : List Op} (h : Ops n (o :: os)) : Ops n os := fun i hi => h i (List.mem_cons_of_mem _ hi)
theorem Ops.left {n : Nat} {u v : List Op} (h : Ops n (u ++ v)) : Ops n u := fun i hi => h i (List.mem_append_left _ hi)
theorem Ops.right {n : Nat} {u v : List Op} (h : Ops n (u ++ v)) : Ops n v := fun i hi => h i (List.mem_append_right _ hi)

theorem Run.congr {n : Nat} : ∀ {os : List Op} {x y x' y' : Nat → Nat} {V V' : Nat → Prop}, Ops n os → (∀ p, p < n → x' p = x p) → (∀ p, p < n → y' p = y p) → (∀ v, V' v ↔ V v) → Run n os x y V → Run n os x' y' V'
  | [], x, y, x', y', V, V', _, hx, hy, hV, h => ⟨fun p hp => by rw [hx p hp, hy p hp]; exact h.1 p hp, fun v => by
      rw [hV, h.2]
      exact ⟨fun ⟨p, hp, e⟩ => ⟨p, hp, by rw [hx p hp]; exact e⟩, fun ⟨p, hp, e⟩ => ⟨p, hp, by rw [← hx p hp]; exact e⟩⟩⟩
  | o :: os, x, y, x', y', V, V', ho, hx, hy, hV, ⟨z, U, h1, h2, h3⟩ =>
    ⟨z, U, opR_congr ho.head hx (fun _ _ => rfl) h1, Run.congr ho.tail (fun _ _ => rfl) hy (fun _ => Iff.rfl) h2, fun v => by
      rw [hV, h3]
      exact ⟨fun k => k.imp id fun ⟨p, hp, e⟩ => ⟨p, hp, by rw [hx p hp]; exact e⟩, fun k => k.imp id fun ⟨p, hp, e⟩ => ⟨p, hp, by rw [← hx p hp]; exact e⟩⟩⟩
theorem Run.start {n : Nat} : ∀ {os : List Op} {x y : Nat → Nat} {V : Nat → Prop}, Run n os x y V → ∀ v, At n x v → V v
  | [], _, _, _, h, v, k => (h.2 v).2 k
  | _ :: _, _, _, _, ⟨_, _, _, _, h3⟩, v, k => (h3 v).2 (Or.inr k)
theorem Run.stop {n : Nat} : ∀ {os : List Op} {x y : Nat → Nat} {V : Nat → Prop}, Run n os x y V → ∀ v, At n y v → V v
  | [], _, _, _, h, v, ⟨p, hp, e⟩ => (h.2 v).2 ⟨p, hp, by rw [← h.1 p hp]; exact e⟩
  | _ :: _, _, _, _, ⟨_, _, _, h2, h3⟩, v, k => (h3 v).2 (Or.inl (h2.stop v k))
theorem Run.one {n : Nat} {o : Op} {x y : Nat → Nat} {V : Nat → Prop} (ho : ∀ i, o = some i → i + 1 < n) : Run n [o] x y V ↔ opR n o x y ∧ ∀ v, V v ↔ At n y v ∨ At n x v := by
  constructor
  · rintro ⟨z, U, h1, h2, h3⟩
    have e : ∀ v, At n z v ↔ At n y v := fun v => ⟨fun ⟨p, hp, e⟩ => ⟨p, hp, by rw [h2.1 p hp]; exact e⟩, fun ⟨p, hp, e⟩ => ⟨p, hp, by rw [← h2.1 p hp]; exact e⟩⟩
    exact ⟨opR_congr ho (fun _ _ => rfl) (fun p hp => h2.1 p hp) h1, fun v => by rw [h3, h2.2]; exact or_congr (e v) Iff.rfl⟩
  · rintro ⟨h1, h2⟩
    exact ⟨y, At n y, h1, ⟨fun _ _ => rfl, fun _ => Iff.rfl⟩, h2⟩

/-- The labels are not more than the places. -/
theorem Run.fin {n : Nat} : ∀ {os : List Op} {x y : Nat → Nat} {V : Nat → Prop}, Run n os x y V → ∃ us : List Nat, us.length = (os.length + 1) * n ∧ ∀ v, V v → v ∈ us
  | [], x, _, V, h => ⟨(List.range n).map x, by simp, fun v hv => by
      obtain ⟨p, hp, e⟩ := (h.2 v).1 hv
      exact List.mem_map.2 ⟨p, List.mem_range.2 hp, e⟩⟩
  | _ :: os, x, _, V, ⟨z, U, _, h2, h3⟩ => by
    obtain ⟨us, h4, h5⟩ := h2.fin
    refine ⟨(List.range n).map x ++ us, by simp [h4, Nat.succ_mul]; omega, fun v hv => ?_⟩
    rcases (h3 v).1 hv with k | ⟨p, hp, e⟩
    · exact List.mem_append_right _ (h5 v k)
    · exact List.mem_append_left _ (List.mem_map.2 ⟨p, List.mem_range.2 hp, e⟩)
/-- So many labels there may be. -/
def Has (n : Nat) (os : List Op) (r : Nat) : Prop := ∃ V, ∃ vs : List Nat, Cl n os V ∧ vs.Nodup ∧ (∀ v ∈ vs, V v) ∧ vs.length = r
theorem nodup_len {l m : List Nat} (h : l.Nodup) (k : ∀ v ∈ l, v ∈ m) : l.length ≤ m.length := by
  induction l generalizing m with
  | nil => exact Nat.zero_le _
  | cons a l ih =>
    have ha := k a List.mem_cons_self
    have h1 := List.nodup_cons.1 h
    have := ih (m := m.erase a) h1.2 fun v hv => (List.mem_erase_of_ne (fun e : v = a => h1.1 (e ▸ hv))).2 (k v (List.mem_cons_of_mem _ hv))
    rw [List.length_erase_of_mem ha] at this
    have : 0 < m.length := List.length_pos_of_mem ha
    rw [List.length_cons]; omega
theorem Has.le {n : Nat} {os : List Op} {r : Nat} (h : Has n os r) : r ≤ (os.length + 1) * n := by
  obtain ⟨V, vs, ⟨x, hx⟩, h2, h3, rfl⟩ := h
  obtain ⟨us, e, k⟩ := hx.fin
  rw [← e]
  exact nodup_len h2 fun v hv => k v (h3 v hv)
theorem same_run {n : Nat} : ∀ (os : List Op), ∃ V, Run n os (fun _ => 0) (fun _ => 0) V
  | [] => ⟨_, fun _ _ => rfl, fun _ => Iff.rfl⟩
  | o :: os => by
    obtain ⟨V, h⟩ := same_run (n := n) os
    refine ⟨_, fun _ => 0, V, ?_, h, fun _ => Iff.rfl⟩
    cases o with
    | none => intro _ _; rfl
    | some i => exact ⟨rfl, rfl, fun _ _ _ _ => rfl⟩
theorem Has.zero (n : Nat) (os : List Op) : Has n os 0 := by
  obtain ⟨V, h⟩ := same_run (n := n) os
  exact ⟨V, [], ⟨_, h⟩, List.nodup_nil, fun _ h => by simp at h, rfl⟩
theorem max_of {P : Nat → Prop} {b : Nat} (h0 : P 0) (hb : ∀ r, P r → r ≤ b) : ∃ r, P r ∧ ∀ s, P s → s ≤ r := by
  refine Classical.byContradiction fun hc => ?_
  have : ∀ k, ∃ r, k ≤ r ∧ P r := by
    intro k
    induction k with
    | zero => exact ⟨0, Nat.le_refl _, h0⟩
    | succ k ih =>
      obtain ⟨r, h1, h2⟩ := ih
      refine Classical.byContradiction fun hk => hc ⟨r, h2, fun s hs => ?_⟩
      refine Classical.byContradiction fun hsr => hk ⟨s, by omega, hs⟩
  obtain ⟨r, h1, h2⟩ := this (b + 1)
  have := hb r h2
  omega
theorem rings_ex (n : Nat) (os : List Op) : ∃ r, Has n os r ∧ ∀ s, Has n os s → s ≤ r := max_of (Has.zero n os) fun _ h => h.le
/-- How many rings there are. -/
noncomputable def ringsO (n : Nat) (os : List Op) : Nat := Classical.choose (rings_ex n os)
theorem ringsO_has (n : Nat) (os : List Op) : Has n os (ringsO n os) := (Classical.choose_spec (rings_ex n os)).1
theorem ringsO_max {n : Nat} {os : List Op} {s : Nat} (h : Has n os s) : s ≤ ringsO n os := (Classical.choose_spec (rings_ex n os)).2 s h
theorem ringsO_is {n : Nat} {os : List Op} {r : Nat} (h : Has n os r) (k : ∀ s, Has n os s → s ≤ r) : ringsO n os = r := Nat.le_antisymm (k _ (ringsO_has n os)) (ringsO_max h)

theorem Ops.more {n : Nat} {os : List Op} (h : Ops n os) : Ops (n + 1) os := fun i hi => by have := h i hi; omega
end Go.Proofs.YtdelekkbkpldjaaDoor.Kn

/- The bracket of a closed word, plain: what goes around, what is undone, one strand more. -/
namespace Go.Proofs.YtdelekkbkpldjaaDoor.Kn
set_option linter.unusedVariables false

theorem Let.op {n : Nat} {a : Int} (h : Let n a) : a.natAbs - 1 + 1 < n := by
  have h0 : a.natAbs ≠ 0 := fun e => h.ne (Int.natAbs_eq_zero.1 e)
  have := h.lt
  omega
end Go.Proofs.YtdelekkbkpldjaaDoor.Kn

/- Rings of a closed word's states, plain: labels of places at levels. -/
namespace Go.Proofs.YtdelekkbkpldjaaDoor.Kn
set_option linter.unusedVariables false

/- a state's roots: what is tied has one root; what respects the ties is told at the root -/
def TiesAll (X : List Qd) (st : Nat) (R : Nat → Nat → Prop) : Prop :=
  match X with
  | [] => True
  | x :: X => (if st % 2 = 0 then R x.1 x.2.1 ∧ R x.2.2.1 x.2.2.2 else R x.2.1 x.2.2.1 ∧ R x.2.2.2 x.1) ∧ TiesAll X (st / 2) R
def Qin (n : Nat) (x : Qd) : Prop := (1 ≤ x.1 ∧ x.1 ≤ 2 * n) ∧ (1 ≤ x.2.1 ∧ x.2.1 ≤ 2 * n) ∧ (1 ≤ x.2.2.1 ∧ x.2.2.1 ≤ 2 * n) ∧ (1 ≤ x.2.2.2 ∧ x.2.2.2 ≤ 2 * n)
theorem un_rt {n : Nat} {s : Rt} (h : RtOk n s) {a b : Nat} {x : Nat} (hx : x ≤ 2 * n) : rt (un s a b).1 x = if rt s.1 x = rt s.1 a then rt s.1 b else rt s.1 x := by
  unfold un
  split
  · rename_i e
    split
    · rename_i e2; rw [e2, e]
    · rfl
  · exact rt_map' _ _ (by have := h.len; omega)
theorem un_keep {n : Nat} {s : Rt} (h : RtOk n s) {a b x y : Nat} (hx : x ≤ 2 * n) (hy : y ≤ 2 * n) (e : rt s.1 x = rt s.1 y) : rt (un s a b).1 x = rt (un s a b).1 y := by
  rw [un_rt h hx, un_rt h hy, e]
theorem un_tie {n : Nat} {s : Rt} (h : RtOk n s) {a b : Nat} (ha : a ≤ 2 * n) (hb : b ≤ 2 * n) : rt (un s a b).1 a = rt (un s a b).1 b := by
  rw [un_rt h ha, un_rt h hb, if_pos rfl]
  split <;> rfl
theorem un_lab {n : Nat} {s : Rt} (h : RtOk n s) {α : Type} {H : Nat → α} {a b : Nat} (ha : 1 ≤ a ∧ a ≤ 2 * n) (hb : 1 ≤ b ∧ b ≤ 2 * n) (he : H a = H b) (hs : ∀ x, 1 ≤ x → x ≤ 2 * n → H (rt s.1 x) = H x) : ∀ x, 1 ≤ x → x ≤ 2 * n → H (rt (un s a b).1 x) = H x := fun x h1 h2 => by
  rw [un_rt h h2]
  split
  · rename_i e
    rw [hs b hb.1 hb.2, ← he, ← hs a ha.1 ha.2, ← e, hs x h1 h2]
  · exact hs x h1 h2
theorem state_keep {n : Nat} : ∀ {X : List Qd} {s : Rt} (h : RtOk n s) (hX : ∀ q ∈ X, Qin n q) (st : Nat) {x y : Nat}, x ≤ 2 * n → y ≤ 2 * n → rt s.1 x = rt s.1 y → rt (stateF X s st).1 x = rt (stateF X s st).1 y
  | [], s, h, hX, st, x, y, hx, hy, e => e
  | q :: X, s, h, hX, st, x, y, hx, hy, e => by
    obtain ⟨⟨a1, a2⟩, ⟨b1, b2⟩, ⟨c1, c2⟩, d1, d2⟩ := hX q (by simp)
    rw [stateF]
    unfold unA
    split
    · exact state_keep ((h.un a1 a2 b1 b2).un c1 c2 d1 d2) (fun r hr => hX r (by simp [hr])) _ hx hy (un_keep (h.un a1 a2 b1 b2) hx hy (un_keep h hx hy e))
    · exact state_keep ((h.un b1 b2 c1 c2).un d1 d2 a1 a2) (fun r hr => hX r (by simp [hr])) _ hx hy (un_keep (h.un b1 b2 c1 c2) hx hy (un_keep h hx hy e))
theorem state_ties {n : Nat} : ∀ {X : List Qd} {s : Rt} (h : RtOk n s) (hX : ∀ q ∈ X, Qin n q) (st : Nat), TiesAll X st fun x y => rt (stateF X s st).1 x = rt (stateF X s st).1 y
  | [], s, h, hX, st => trivial
  | q :: X, s, h, hX, st => by
    obtain ⟨⟨a1, a2⟩, ⟨b1, b2⟩, ⟨c1, c2⟩, d1, d2⟩ := hX q (by simp)
    have hX' : ∀ r ∈ X, Qin n r := fun r hr => hX r (by simp [hr])
    rw [stateF]
    unfold unA TiesAll
    split
    · have h1 := h.un a1 a2 b1 b2
      have h2 := h1.un c1 c2 d1 d2
      exact ⟨⟨state_keep h2 hX' _ a2 b2 (un_keep h1 a2 b2 (un_tie h a2 b2)), state_keep h2 hX' _ c2 d2 (un_tie h1 c2 d2)⟩, state_ties h2 hX' _⟩
    · have h1 := h.un b1 b2 c1 c2
      have h2 := h1.un d1 d2 a1 a2
      exact ⟨⟨state_keep h2 hX' _ b2 c2 (un_keep h1 b2 c2 (un_tie h b2 c2)), state_keep h2 hX' _ d2 a2 (un_tie h1 d2 a2)⟩, state_ties h2 hX' _⟩
theorem state_lab {n : Nat} {α : Type} {H : Nat → α} : ∀ {X : List Qd} {s : Rt} (h : RtOk n s) (hX : ∀ q ∈ X, Qin n q) (st : Nat), TiesAll X st (fun x y => H x = H y) → (∀ x, 1 ≤ x → x ≤ 2 * n → H (rt s.1 x) = H x) → ∀ x, 1 ≤ x → x ≤ 2 * n → H (rt (stateF X s st).1 x) = H x
  | [], s, h, hX, st, ht, hs => hs
  | q :: X, s, h, hX, st, ht, hs => by
    obtain ⟨⟨a1, a2⟩, ⟨b1, b2⟩, ⟨c1, c2⟩, d1, d2⟩ := hX q (by simp)
    have hX' : ∀ r ∈ X, Qin n r := fun r hr => hX r (by simp [hr])
    obtain ⟨t1, t2⟩ := ht
    rw [stateF]
    unfold unA
    split
    · rename_i c
      rw [if_pos c] at t1
      exact state_lab ((h.un a1 a2 b1 b2).un c1 c2 d1 d2) hX' _ t2 (un_lab (h.un a1 a2 b1 b2) ⟨c1, c2⟩ ⟨d1, d2⟩ t1.2 (un_lab h ⟨a1, a2⟩ ⟨b1, b2⟩ t1.1 hs))
    · rename_i c
      rw [if_neg c] at t1
      exact state_lab ((h.un b1 b2 c1 c2).un d1 d2 a1 a2) hX' _ t2 (un_lab (h.un b1 b2 c1 c2) ⟨d1, d2⟩ ⟨a1, a2⟩ t1.2 (un_lab h ⟨b1, b2⟩ ⟨c1, c2⟩ t1.1 hs))

/-- The letters undone in a state. -/
def opsB : List Int → Nat → List Op
  | [], _ => []
  | a :: w, st => (if (0 < a ↔ st % 2 = 0) then none else some (a.natAbs - 1)) :: opsB w (st / 2)
theorem opsB_len : ∀ (w : List Int) (st : Nat), (opsB w st).length = w.length
  | [], _ => rfl
  | a :: w, st => by rw [opsB, List.length_cons, opsB_len w, List.length_cons]
theorem opsB_at : ∀ (w : List Int) (st k : Nat), k < w.length → (opsB w st).getD k none = if (0 < w.getD k 0 ↔ (st / 2 ^ k) % 2 = 0) then none else some ((w.getD k 0).natAbs - 1)
  | a :: w, st, 0, _ => by simp [opsB]
  | a :: w, st, k + 1, h => by
    rw [opsB, List.getD_cons_succ, List.getD_cons_succ, opsB_at w (st / 2) k (by simpa using h), Nat.div_div_eq_div_mul, Nat.pow_succ, Nat.mul_comm 2]
theorem opsB_ops {n : Nat} {w : List Int} (hw : LetsM n w) : ∀ st, Ops n (opsB w st) := by
  intro st i hi
  obtain ⟨k, hk, e⟩ := List.getElem_of_mem hi
  rw [opsB_len] at hk
  have h1 := opsB_at w st k hk
  rw [List.getD_eq_getElem?_getD, List.getElem?_eq_getElem (by rw [opsB_len]; exact hk), e] at h1
  simp only [Option.getD_some] at h1
  split at h1
  · cases h1
  · injection h1 with h1
    have := hw.iw hk
    unfold iw at this; omega
/-- Levels of labels make a run. -/
theorem run_levels {n : Nat} : ∀ (os : List Op) (g : Nat → Nat → Nat), (∀ k, k < os.length → opR n (os.getD k none) (g k) (g (k + 1))) → Run n os (g 0) (g os.length) fun v => ∃ k, k ≤ os.length ∧ At n (g k) v
  | [], g, _ => ⟨fun _ _ => rfl, fun v => ⟨fun ⟨k, hk, h⟩ => by
      obtain rfl : k = 0 := by simpa using hk
      exact h, fun h => ⟨0, Nat.le_refl _, h⟩⟩⟩
  | o :: os, g, h => by
    have ih := run_levels os (fun k => g (k + 1)) fun k hk => by
      have := h (k + 1) (by rw [List.length_cons]; omega)
      rwa [List.getD_cons_succ] at this
    have h0 := h 0 (by rw [List.length_cons]; omega)
    refine ⟨g 1, _, h0, ih, fun v => ?_⟩
    constructor
    · rintro ⟨k, hk, hv⟩
      cases k with
      | zero => exact .inr hv
      | succ k => exact .inl ⟨k, by rw [List.length_cons] at hk; omega, hv⟩
    · rintro (⟨k, hk, hv⟩ | hv)
      · exact ⟨k + 1, by rw [List.length_cons]; omega, hv⟩
      · exact ⟨0, Nat.zero_le _, hv⟩
theorem levels_run {n : Nat} : ∀ {os : List Op} {x y : Nat → Nat} {V : Nat → Prop}, Run n os x y V → ∃ g : Nat → Nat → Nat, g 0 = x ∧ (∀ p, p < n → y p = g os.length p) ∧ (∀ k, k < os.length → opR n (os.getD k none) (g k) (g (k + 1))) ∧ ∀ v, V v → ∃ k, k ≤ os.length ∧ At n (g k) v
  | [], x, y, V, h => ⟨fun _ => x, rfl, h.1, fun k hk => by simp at hk, fun v hv => ⟨0, Nat.le_refl _, (h.2 v).1 hv⟩⟩
  | o :: os, x, y, V, h => by
    obtain ⟨z, U, h1, h2, h3⟩ := h
    obtain ⟨g, g0, gl, gs, gv⟩ := levels_run h2
    refine ⟨fun k => match k with | 0 => x | k + 1 => g k, rfl, gl, fun k hk => ?_, fun v hv => ?_⟩
    · cases k with
      | zero => rw [List.getD_cons_zero]; show opR n o x (g 0); rw [g0]; exact h1
      | succ k => rw [List.getD_cons_succ]; exact gs k (by rw [List.length_cons] at hk; omega)
    · rcases (h3 v).1 hv with hv | hv
      · obtain ⟨k, hk, ha⟩ := gv v hv
        exact ⟨k + 1, by rw [List.length_cons]; omega, ha⟩
      · exact ⟨0, Nat.zero_le _, hv⟩
end Go.Proofs.YtdelekkbkpldjaaDoor.Kn

/- Rings of a closed word's states are those of its letters undone, plain. -/
namespace Go.Proofs.YtdelekkbkpldjaaDoor.Kn
set_option linter.unusedVariables false

theorem ties_at {R : Nat → Nat → Prop} : ∀ (X : List Qd) (st : Nat), TiesAll X st R ↔ ∀ k (h : k < X.length), (if st / 2 ^ k % 2 = 0 then R X[k].1 X[k].2.1 ∧ R X[k].2.2.1 X[k].2.2.2 else R X[k].2.1 X[k].2.2.1 ∧ R X[k].2.2.2 X[k].1)
  | [], st => ⟨fun _ k h => by simp at h, fun _ => trivial⟩
  | x :: X, st => by
    unfold TiesAll
    rw [ties_at X]
    constructor
    · rintro ⟨h1, h2⟩ k hk
      cases k with
      | zero => simpa using h1
      | succ k =>
        have := h2 k (by simpa using hk)
        rw [Nat.div_div_eq_div_mul] at this
        rw [Nat.pow_succ, Nat.mul_comm (2 ^ k)]
        exact this
    · intro h
      refine ⟨?_, fun k hk => ?_⟩
      · have := h 0 (by simp)
        rw [Nat.pow_zero, Nat.div_one] at this
        exact this
      · have := h (k + 1) (by simpa using hk)
        rw [Nat.pow_succ, Nat.mul_comm (2 ^ k), ← Nat.div_div_eq_div_mul] at this
        exact this
section
variable {n : Nat} {w : List Int} {A : List Nat} {N : Nat × Nat → Nat}
theorem closX_qd (h : Clo w A N) {k : Nat} (hk : k < ((closX w A).map qd).length) : ((closX w A).map qd)[k] = (arcN (closX w A) (k, 0), arcN (closX w A) (k, 1), arcN (closX w A) (k, 2), arcN (closX w A) (k, 3)) := by
  have hk' : k < (closX w A).length := by simpa using hk
  rw [List.getElem_map]
  have e : cr (closX w A) k = (closX w A)[k] := by unfold cr; rw [List.getD_eq_getElem?_getD, List.getElem?_eq_getElem hk']; rfl
  unfold arcN at_
  rw [e]
  rfl
/-- A state's ties, told by levels. -/
theorem Clo.ties (h : Clo w A N) {R : Nat → Nat → Prop} (st : Nat) : TiesAll ((closX w A).map qd) st R ↔ ∀ k, k < w.length →
    (if 0 < w.getD k 0 ↔ st / 2 ^ k % 2 = 0 then R (labC w N k (iw w k + 1)) (labC w N (k + 1) (iw w k + 1)) ∧ R (labC w N (k + 1) (iw w k)) (labC w N k (iw w k))
      else R (labC w N (k + 1) (iw w k + 1)) (labC w N (k + 1) (iw w k)) ∧ R (labC w N k (iw w k)) (labC w N k (iw w k + 1))) := by
  rw [ties_at]
  have hl : ((closX w A).map qd).length = w.length := by rw [List.length_map, closX_len]
  have key : ∀ k (hk : k < ((closX w A).map qd).length), (if st / 2 ^ k % 2 = 0 then R ((closX w A).map qd)[k].1 ((closX w A).map qd)[k].2.1 ∧ R ((closX w A).map qd)[k].2.2.1 ((closX w A).map qd)[k].2.2.2 else R ((closX w A).map qd)[k].2.1 ((closX w A).map qd)[k].2.2.1 ∧ R ((closX w A).map qd)[k].2.2.2 ((closX w A).map qd)[k].1) ↔
      (if 0 < w.getD k 0 ↔ st / 2 ^ k % 2 = 0 then R (labC w N k (iw w k + 1)) (labC w N (k + 1) (iw w k + 1)) ∧ R (labC w N (k + 1) (iw w k)) (labC w N k (iw w k))
      else R (labC w N (k + 1) (iw w k + 1)) (labC w N (k + 1) (iw w k)) ∧ R (labC w N k (iw w k)) (labC w N k (iw w k + 1))) := by
    intro k hk
    have hk' : k < w.length := by omega
    have ha := h.arcs hk'
    have a0 : arcN (closX w A) (ofR w k 0) = labC w N k (iw w k) := ha 0 (by omega)
    have a1 : arcN (closX w A) (ofR w k 1) = labC w N k (iw w k + 1) := ha 1 (by omega)
    have a2 : arcN (closX w A) (ofR w k 2) = labC w N (k + 1) (iw w k + 1) := ha 2 (by omega)
    have a3 : arcN (closX w A) (ofR w k 3) = labC w N (k + 1) (iw w k) := ha 3 (by omega)
    rw [closX_qd h hk]
    by_cases c : 0 < w.getD k 0
    · rw [ofR_eq (s := 3) (by rw [if_pos c])] at a0
      rw [ofR_eq (s := 0) (by rw [if_pos c])] at a1
      rw [ofR_eq (s := 1) (by rw [if_pos c])] at a2
      rw [ofR_eq (s := 2) (by rw [if_pos c])] at a3
      simp only [a0, a1, a2, a3]
      by_cases b : st / 2 ^ k % 2 = 0
      · rw [if_pos b, if_pos ⟨fun _ => b, fun _ => c⟩]
      · rw [if_neg b, if_neg fun k => b (k.1 c)]
    · rw [ofR_eq (s := 0) (by rw [if_neg c])] at a0
      rw [ofR_eq (s := 1) (by rw [if_neg c])] at a1
      rw [ofR_eq (s := 2) (by rw [if_neg c])] at a2
      rw [ofR_eq (s := 3) (by rw [if_neg c])] at a3
      simp only [a0, a1, a2, a3]
      by_cases b : st / 2 ^ k % 2 = 0
      · rw [if_pos b, if_neg fun k => c (k.2 b)]; exact ⟨fun ⟨x, y⟩ => ⟨y, x⟩, fun ⟨x, y⟩ => ⟨y, x⟩⟩
      · rw [if_neg b, if_pos ⟨fun k => absurd k c, fun k => absurd k b⟩]
  exact ⟨fun g k hk => (key k (by omega)).1 (g k (by omega)), fun g k hk => (key k hk).2 (g k (by omega))⟩
theorem Clo.qin (h : Clo w A N) : ∀ q ∈ (closX w A).map qd, Qin w.length q := by
  have := h.ok.qd_rng
  rw [closX_len] at this
  exact this
/-- THE RINGS OF A STATE. -/
theorem Clo.rings (h : Clo w A N) (hw : LetsM n w) (st : Nat) : ringsN (closX w A) ((List.range n).countP (freeB w)) st = ringsO n (opsB w st) := by
  have hO := opsB_ops hw st
  have hq := h.qin
  have hS := RtOk.start w.length
  have hR := RtOk.state hS hq st
  obtain ⟨s, hs⟩ : ∃ s, s = stateF ((closX w A).map qd) (start w.length) st := ⟨_, rfl⟩
  rw [← hs] at hR
  have hcnt := hR.cnt
  have hol : (opsB w st).length = w.length := opsB_len w st
  have touched : ∀ {k p}, Tch w k p → ¬ Free w p := fun ht hf => hf _ ht
  have roots_mem : ∀ r, r ∈ (List.range (2 * w.length + 1)).filter (fun a => decide (1 ≤ a) && decide (rt s.1 a = a)) ↔ (1 ≤ r ∧ r ≤ 2 * w.length ∧ rt s.1 r = r) := fun r => by
    rw [List.mem_filter, List.mem_range]
    simp only [Bool.and_eq_true, decide_eq_true_eq]
    omega
  have hrl : ((List.range (2 * w.length + 1)).filter (fun a => decide (1 ≤ a) && decide (rt s.1 a = a))).length + s.2 = 2 * w.length := by
    rw [← List.countP_eq_length_filter]; exact hcnt
  have hfl : ((List.range n).filter (freeB w)).length = (List.range n).countP (freeB w) := List.countP_eq_length_filter.symm
  have htot : ringsN (closX w A) ((List.range n).countP (freeB w)) st = ((List.range (2 * w.length + 1)).filter (fun a => decide (1 ≤ a) && decide (rt s.1 a = a))).length + ((List.range n).filter (freeB w)).length := by
    unfold ringsN
    rw [closX_len, ← hs, hfl]
    omega
  rw [htot]
  refine (ringsO_is ?_ fun r hr => ?_).symm
  · -- labels by roots
    let g : Nat → Nat → Nat := fun k p => if freeB w p = true then 2 * w.length + 1 + p else rt s.1 (labC w N k p)
    have hT := (h.ties st).1 (state_ties hS hq st)
    rw [← hs] at hT
    have gon : ∀ k p, k < w.length → ¬ Tch w k p → g (k + 1) p = g k p := fun k p hk ht => by
      show (if _ then _ else rt s.1 (labC w N (k + 1) p)) = if _ then _ else rt s.1 (labC w N k p)
      unfold labC
      rw [nxT_on hk ht]
    have gt : ∀ {j p}, Tch w j p → ∀ k, g k p = rt s.1 (labC w N k p) := fun ht k => if_neg (fun e => touched ht (freeB_iff.1 e))
    have hlev : ∀ k, k < (opsB w st).length → opR n ((opsB w st).getD k none) (g k) (g (k + 1)) := by
      intro k hk
      rw [hol] at hk
      have t0 : Tch w k (iw w k) := ⟨hk, .inl rfl⟩
      have t1 : Tch w k (iw w k + 1) := ⟨hk, .inr rfl⟩
      have hTk := hT k hk
      rw [opsB_at w st k hk]
      by_cases c : (0 < w.getD k 0 ↔ st / 2 ^ k % 2 = 0)
      · rw [if_pos c] at hTk ⊢
        intro p hp
        by_cases ht : Tch w k p
        · rcases ht.2 with e | e
          · rw [e, gt t0, gt t0]; exact hTk.2
          · rw [e, gt t1, gt t1]; exact hTk.1.symm
        · exact gon k p hk ht
      · rw [if_neg c] at hTk ⊢
        show g k (iw w k) = g k (iw w k + 1) ∧ g (k + 1) (iw w k) = g (k + 1) (iw w k + 1) ∧ _
        refine ⟨?_, ?_, fun p hp h1 h2 => gon k p hk fun ht => ht.2.elim h1 h2⟩
        · rw [gt t0, gt t1]; exact hTk.2
        · rw [gt t0, gt t1]; exact hTk.1.symm
    have hrun := run_levels (opsB w st) g hlev
    have hgl : ∀ p, p < n → g 0 p = g (opsB w st).length p := fun p _ => by
      rw [hol]
      show (if _ then _ else rt s.1 (labC w N 0 p)) = if _ then _ else rt s.1 (labC w N w.length p)
      unfold labC
      rw [nxT_round]
    have hcl := Run.congr hO (fun _ _ => rfl) hgl (fun _ => Iff.rfl) hrun
    refine ⟨_, (List.range (2 * w.length + 1)).filter (fun a => decide (1 ≤ a) && decide (rt s.1 a = a)) ++ ((List.range n).filter (freeB w)).map (2 * w.length + 1 + ·), ⟨g 0, hcl⟩, ?_, fun v hv => ?_, by rw [List.length_append, List.length_map]⟩
    · rw [List.nodup_append]
      refine ⟨List.nodup_range.sublist List.filter_sublist, ?_, ?_⟩
      · rw [List.Nodup, List.pairwise_map]
        exact List.Pairwise.imp (fun hab e => hab (by omega)) (List.nodup_range.sublist List.filter_sublist)
      · intro a ha b hb e
        have := (roots_mem a).1 ha
        obtain ⟨p, _, rfl⟩ := List.mem_map.1 hb
        omega
    · rcases List.mem_append.1 hv with hv | hv
      · obtain ⟨r1, r2, r3⟩ := (roots_mem v).1 hv
        obtain ⟨x, hx, e⟩ := hit_all h.rng h.inj r1 r2
        obtain ⟨k, p⟩ := x
        have hxt : Tch w k p := hx
        have hpn : p < n := by
          have := (hw.iw hxt.1).2
          have := hxt.2; omega
        refine ⟨k, by rw [hol]; have := hxt.1; omega, p, hpn, ?_⟩
        rw [gt hxt]
        unfold labC
        rw [nxT_touch hxt, e, r3]
      · obtain ⟨p, hp, rfl⟩ := List.mem_map.1 hv
        obtain ⟨p1, p2⟩ := List.mem_filter.1 hp
        exact ⟨0, Nat.zero_le _, p, List.mem_range.1 p1, if_pos p2⟩
  · -- no more
    obtain ⟨V, vs, ⟨x, hx⟩, h2, h3, rfl⟩ := hr
    obtain ⟨g, g0, gl, gs, gv⟩ := levels_run hx
    rw [hol] at gl gv
    have hg0 : ∀ p, p < n → g w.length p = g 0 p := fun p hp => by rw [← gl p hp, g0]
    have gon : ∀ k p, k < w.length → p < n → ¬ Tch w k p → g (k + 1) p = g k p := fun k p hk hp ht => by
      have := gs k (by rw [hol]; exact hk)
      rw [opsB_at w st k hk] at this
      split at this
      · exact this p hp
      · exact this.2.2 p hp (fun e => ht ⟨hk, .inl e⟩) fun e => ht ⟨hk, .inr e⟩
    have hH : ∃ H : Nat → Nat, ∀ k p, Tch w k p → H (N (k, p)) = g k p := by
      have h1 : ∀ a : Nat, ∃ v : Nat, ∀ k p, Tch w k p → N (k, p) = a → v = g k p := fun a => by
        by_cases hh : ∃ x : Nat × Nat, TchX w x ∧ N x = a
        · obtain ⟨y, hy, rfl⟩ := hh
          refine ⟨g y.1 y.2, fun k p ht e => ?_⟩
          have := h.inj (k, p) y ht hy e
          rw [← this]
        · exact ⟨0, fun k p ht e => absurd ⟨(k, p), ht, e⟩ hh⟩
      obtain ⟨H, hH⟩ := Classical.axiomOfChoice h1
      exact ⟨H, fun k p ht => hH _ k p ht rfl⟩
    obtain ⟨H, hH⟩ := hH
    have hlab : ∀ k p, k ≤ w.length → p < n → ¬ Free w p → H (labC w N k p) = g k p := fun k p hk hp hf => by
      have ex : ∃ j, Tch w j p := Classical.byContradiction fun c => hf fun j hj => c ⟨j, hj⟩
      unfold labC
      rw [hH _ _ (nxT_is ex hk)]
      exact nxT_const (f := fun k => g k p) (fun j hj ht => gon j p hj hp ht) (hg0 p hp) hk
    have hties : TiesAll ((closX w A).map qd) st fun a b => H a = H b := (h.ties st).2 fun k hk => by
      have t0 : Tch w k (iw w k) := ⟨hk, .inl rfl⟩
      have t1 : Tch w k (iw w k + 1) := ⟨hk, .inr rfl⟩
      obtain ⟨_, i2⟩ := hw.iw hk
      have this := gs k (by rw [hol]; exact hk)
      rw [opsB_at w st k hk] at this
      rw [hlab k _ (by omega) (by omega) (touched t1), hlab (k + 1) _ (by omega) (by omega) (touched t1), hlab k _ (by omega) (by omega) (touched t0), hlab (k + 1) _ (by omega) (by omega) (touched t0)]
      by_cases c : (0 < w.getD k 0 ↔ st / 2 ^ k % 2 = 0)
      · rw [if_pos c] at this ⊢
        exact ⟨(this _ (by omega)).symm, this _ (by omega)⟩
      · rw [if_neg c] at this ⊢
        exact ⟨this.2.1.symm, this.1⟩
    have hst := state_lab hS hq st hties (fun x h1 h2 => by rw [rt_start h2])
    rw [← hs] at hst
    have := nodup_len (m := ((List.range (2 * w.length + 1)).filter (fun a => decide (1 ≤ a) && decide (rt s.1 a = a))).map H ++ ((List.range n).filter (freeB w)).map (g 0)) h2 fun v hv => by
      obtain ⟨k, hk, p, hp, e⟩ := gv v (h3 v hv)
      rw [List.mem_append]
      by_cases hf : Free w p
      · refine .inr (List.mem_map.2 ⟨p, List.mem_filter.2 ⟨List.mem_range.2 hp, freeB_iff.2 hf⟩, ?_⟩)
        have : ∀ k, k ≤ w.length → g k p = g 0 p := by
          intro k
          induction k with
          | zero => intro _; rfl
          | succ k ih => intro hk; rw [gon k p (by omega) hp (hf k), ih (by omega)]
        rw [← e, this k hk]
      · have ex : ∃ j, Tch w j p := Classical.byContradiction fun c => hf fun j hj => c ⟨j, hj⟩
        have ha := h.rng (nxT w k p, p) (nxT_is ex hk)
        have hr := hR.rng _ ha.1 ha.2
        refine .inl (List.mem_map.2 ⟨rt s.1 (labC w N k p), (roots_mem _).2 ⟨hr.1, hr.2, hR.fix _ ha.1 ha.2⟩, ?_⟩)
        exact (hst _ ha.1 ha.2).trans ((hlab k p hk hp hf).trans e)
    rw [List.length_append, List.length_map, List.length_map] at this
    exact this
end
end Go.Proofs.YtdelekkbkpldjaaDoor.Kn

/- Plain mathematics: determinants row by row for all sets of places. -/
namespace Pl
abbrev Tab := List (List (List T))
def ent (m : Tab) (i j : Nat) : List T := (m.getD i []).getD j []
def pop (s : Nat) : Nat := (List.range 3).countP fun k => s.testBit k
def sg (b : Nat) : Int := 1 - 2 * ((b : Int) % 2)
theorem sg_one (b : Nat) : sg b = 1 ∨ sg b = -1 := by unfold sg; omega
def sc (s : Int) (l : List T) : List T := l.map fun t => (t.1, s * t.2)
/- bounds: how many, how great -/
def nbF (c : Nat) : Nat → Nat → Nat
  | 0, _ => 1
  | f + 1, s => if s = 0 then 1 else (if s.testBit 0 then c * nbF c f (s - 2 ^ 0) else 0) + (if s.testBit 1 then c * nbF c f (s - 2 ^ 1) else 0) + (if s.testBit 2 then c * nbF c f (s - 2 ^ 2) else 0)
def nb (c s : Nat) : Nat := nbF c 3 s
theorem sc_size {s : Int} (hs : s = 1 ∨ s = -1) (l : List T) : size (sc s l) = size l := by
  induction l with
  | nil => rfl
  | cons t l ih =>
    show size ((t.1, s * t.2) :: sc s l) = _
    rw [size_cons, size_cons, ih]
    show (s * t.2).natAbs + _ = _
    rcases hs with rfl | rfl <;> omega
end Pl

/- Values of polynomials at numbers; what they tell: plain mathematics. -/
namespace Pl
/- a value at M, the exponents moved by K -/
def pv (M K : Int) (l : List T) : Int := tot l fun x => M ^ (x + K).toNat
theorem pv_app (M K : Int) (a b : List T) : pv M K (a ++ b) = pv M K a + pv M K b := tot_app _ _ _
theorem pv_nil (M K : Int) : pv M K [] = 0 := rfl
def Low (K : Int) (l : List T) : Prop := ∀ t ∈ l, -K ≤ t.1
/- one of least exponent -/
theorem least : ∀ {l : List T}, l ≠ [] → ∃ t ∈ l, ∀ u ∈ l, t.1 ≤ u.1
  | [], h => absurd rfl h
  | [t], _ => ⟨t, by simp, fun u hu => by rw [List.mem_singleton] at hu; subst hu; exact Int.le_refl _⟩
  | t :: u :: l, _ => by
    obtain ⟨v, hv, h⟩ := least (l := u :: l) (by simp)
    by_cases c : t.1 ≤ v.1
    · exact ⟨t, by simp, fun x hx => by
        rcases List.mem_cons.1 hx with rfl | hx
        · exact Int.le_refl _
        · have := h x hx; omega⟩
    · exact ⟨v, List.mem_cons_of_mem _ hv, fun x hx => by
        rcases List.mem_cons.1 hx with rfl | hx
        · omega
        · exact h x hx⟩
theorem tot_dvd {l : List T} {f : Int → Int} {d : Int} (h : ∀ t ∈ l, d ∣ f t.1) : d ∣ tot l f := by
  induction l with
  | nil => exact ⟨0, by simp [tot_nil]⟩
  | cons t l ih =>
    rw [tot_cons]
    exact Int.dvd_add (Int.dvd_mul_of_dvd_right (h t (by simp))) (ih fun u hu => h u (by simp [hu]))
theorem pv_inj {M K : Int} : ∀ (n : Nat) (d : List T), d.length ≤ n → Low K d → (size d : Int) < M → pv M K d = 0 → ∀ e, co d e = 0
  | _, [], _, _, _, _, e => rfl
  | 0, _ :: _, h, _, _, _, _ => by simp at h
  | n + 1, t :: l, hn, hl, hs, h0, e => by
    obtain ⟨v, hv, hmin⟩ := least (l := t :: l) (by simp)
    have hM : 0 < M := by omega
    have h1 := tot_out v.1 (fun x => M ^ (x + K).toNat) (t :: l)
    have hgt : ∀ u ∈ out v.1 (t :: l), v.1 < u.1 := fun u hu => by
      simp only [out, List.mem_filter] at hu
      have h2 := hmin u hu.1
      have h3 : u.1 ≠ v.1 := by simpa using hu.2
      omega
    have hdv : M ^ (v.1 + K).toNat * M ∣ tot (out v.1 (t :: l)) fun x => M ^ (x + K).toNat := by
      refine tot_dvd fun u hu => ?_
      have h2 := hgt u hu
      have h3 := hl v hv
      rw [show (u.1 + K).toNat = (v.1 + K).toNat + 1 + (u.1 - v.1 - 1).toNat from by omega, Int.pow_add, Int.pow_succ]
      exact ⟨_, rfl⟩
    obtain ⟨q, hq⟩ := hdv
    have hz : co (t :: l) v.1 + M * q = 0 := by
      have h2 : M ^ (v.1 + K).toNat * (co (t :: l) v.1 + M * q) = 0 := by
        have : tot (t :: l) (fun x => M ^ (x + K).toNat) = 0 := h0
        rw [hq, this] at h1
        rw [Int.mul_add, ← Int.mul_assoc, Int.mul_comm _ (co _ _)]
        exact h1.symm
      rcases Int.mul_eq_zero.1 h2 with h3 | h3
      · exact absurd h3 (Int.ne_of_gt (Int.pow_pos hM))
      · exact h3
    have hc0 : co (t :: l) v.1 = 0 := by
      have hb := co_le (t :: l) v.1
      rcases Int.lt_trichotomy q 0 with c | c | c
      · have : M * q ≤ M * (-1) := Int.mul_le_mul_of_nonneg_left (by omega) (by omega)
        omega
      · subst c; simpa using hz
      · have : M * 1 ≤ M * q := Int.mul_le_mul_of_nonneg_left (by omega) (by omega)
        omega
    have hsz := size_out v.1 (t :: l)
    have hlen : (out v.1 (t :: l)).length ≤ n := by
      have h4 : (out v.1 (t :: l)).length < (t :: l).length := by
        unfold out
        refine List.length_filter_lt_length_iff_exists.2 ⟨v, hv, by simp⟩
      have h5 : (t :: l).length ≤ n + 1 := hn
      omega
    have h6 := pv_inj (M := M) (K := K) n (out v.1 (t :: l)) hlen (fun u hu => hl u (by simp only [out, List.mem_filter] at hu; exact hu.1)) (by omega) (by
      have : tot (t :: l) (fun x => M ^ (x + K).toNat) = 0 := h0
      rw [this, hc0] at h1
      show tot (out v.1 (t :: l)) (fun x => M ^ (x + K).toNat) = 0
      omega) e
    rw [co_out] at h6
    by_cases c : e = v.1
    · rw [c]; exact hc0
    · rwa [if_neg c] at h6
theorem size_neg (l : List T) : size (neg l) = size l := by
  induction l with
  | nil => rfl
  | cons t l ih =>
    show size ((t.1, -t.2) :: neg l) = _
    rw [size_cons, size_cons, ih]
    show (-t.2).natAbs + _ = _
    omega
/- values of the table of sets -/
/- the value at a number that is not 0 -/
def ev (t : Rat) (l : List T) : Rat := (l.map fun u => (u.2 : Rat) * t ^ u.1).sum
theorem ev_nil (t : Rat) : ev t [] = 0 := rfl
theorem ev_cons (t : Rat) (u : T) (l : List T) : ev t (u :: l) = (u.2 : Rat) * t ^ u.1 + ev t l := by simp [ev]
theorem ev_app (t : Rat) (a b : List T) : ev t (a ++ b) = ev t a + ev t b := by
  induction a with
  | nil => rw [List.nil_append, ev_nil]; grind
  | cons u a ih => rw [List.cons_append, ev_cons, ev_cons, ih]; grind
theorem ev_sc (t : Rat) (s : Int) (l : List T) : ev t (sc s l) = s * ev t l := by
  induction l with
  | nil => show ev t [] = _; rw [ev_nil]; grind
  | cons u l ih =>
    show ev t ((u.1, s * u.2) :: sc s l) = _
    rw [ev_cons, ev_cons, ih]
    simp only [Rat.intCast_mul]
    grind
theorem ev_row {t : Rat} (ht : t ≠ 0) (s : T) (b : List T) : ev t (b.map fun u => (s.1 + u.1, s.2 * u.2)) = (s.2 : Rat) * t ^ s.1 * ev t b := by
  induction b with
  | nil => show ev t [] = _; rw [ev_nil]; grind
  | cons u b ih =>
    rw [List.map_cons, ev_cons, ev_cons, ih]
    simp only [Rat.intCast_mul, Rat.zpow_add ht]
    grind
theorem ev_mul {t : Rat} (ht : t ≠ 0) (a b : List T) : ev t (mul a b) = ev t a * ev t b := by
  induction a with
  | nil => show ev t [] = _; rw [ev_nil]; grind
  | cons s a ih =>
    show ev t ((b.map fun u => (s.1 + u.1, s.2 * u.2)) ++ mul a b) = _
    rw [ev_app, ev_row ht, ih, ev_cons]; grind
/- moved and multiplied -/
theorem ev_sh {t : Rat} (ht : t ≠ 0) (q s : Int) (l : List T) : ev t (l.map fun u => (u.1 + q, s * u.2)) = s * t ^ q * ev t l := by
  induction l with
  | nil => show ev t [] = _; rw [ev_nil]; grind
  | cons u l ih =>
    rw [List.map_cons, ev_cons, ev_cons, ih]
    simp only [Rat.intCast_mul, Rat.zpow_add ht]
    grind
theorem ev_out (t : Rat) (e : Int) : ∀ l : List T, ev t l = co l e * t ^ e + ev t (out e l)
  | [] => by show (0 : Rat) = ((0 : Int) : Rat) * _ + 0; rw [Rat.intCast_zero]; grind
  | u :: l => by
    have ih := ev_out t e l
    rw [ev_cons, co_cons, ih]
    by_cases c : u.1 = e
    · rw [if_pos c]
      have : out e (u :: l) = out e l := by simp [out, c]
      rw [this, c, Rat.intCast_add]; grind
    · rw [if_neg c]
      have : out e (u :: l) = u :: out e l := by simp [out, c]
      rw [this, ev_cons, Int.zero_add]; grind
theorem ev_of_zero (t : Rat) : ∀ (n : Nat) (l : List T), l.length ≤ n → (∀ e, co l e = 0) → ev t l = 0
  | _, [], _, _ => rfl
  | 0, _ :: _, h, _ => by simp at h
  | n + 1, u :: l, hn, h => by
    rw [ev_out t u.1, h, Rat.intCast_zero, ev_of_zero t n (out u.1 (u :: l)) (Nat.le_trans (out_length u l) (by simpa using hn)) fun e => by rw [co_out, h]; split <;> rfl]
    grind
theorem ev_neg (t : Rat) (l : List T) : ev t (neg l) = -ev t l := by
  induction l with
  | nil => show ev t [] = _; rw [ev_nil]; grind
  | cons u l ih =>
    show ev t ((u.1, -u.2) :: neg l) = _
    rw [ev_cons, ev_cons, ih]
    simp only [Rat.intCast_neg]
    grind
theorem co_neg (l : List T) (e : Int) : co (neg l) e = -co l e := tot_neg _ _
theorem ev_congr {l m : List T} (h : ∀ e, co l e = co m e) (t : Rat) : ev t l = ev t m := by
  have := ev_of_zero t _ (l ++ neg m) (Nat.le_refl _) fun e => by rw [co_app, co_neg, h]; omega
  rw [ev_app, ev_neg] at this
  grind
/- whole numbers above 0 -/
theorem ev_pv {M : Int} (hM : 0 < M) {K : Int} {l : List T} (hl : Low K l) : ((pv M K l : Int) : Rat) = (M : Rat) ^ K * ev M l := by
  have hM0 : (M : Rat) ≠ 0 := fun e => by rw [Rat.intCast_eq_zero_iff] at e; omega
  induction l with
  | nil => rw [pv_nil, ev_nil, Rat.intCast_zero]; grind
  | cons u l ih =>
    have h1 := hl u (by simp)
    rw [ev_cons]
    show ((tot (u :: l) _ : Int) : Rat) = _
    rw [tot_cons, Rat.intCast_add, Rat.intCast_mul, Rat.intCast_pow]
    have e1 : (M : Rat) ^ (u.1 + K).toNat = (M : Rat) ^ u.1 * (M : Rat) ^ K := by
      rw [← Rat.zpow_add hM0, ← Rat.zpow_natCast]
      congr 1; omega
    have := ih fun v hv => hl v (by simp [hv])
    rw [show tot l (fun x => M ^ (x + K).toNat) = pv M K l from rfl, this, e1]
    grind
theorem Low.mono {K K' : Int} {l : List T} (h : Low K l) (hk : K ≤ K') : Low K' l := fun t ht => by have := h t ht; omega
/- polynomials that begin at 0, above 0 -/
def Nrm (m : List T) : Prop := Form m ∧ (m = [] ∨ ∃ c r, 0 < c ∧ m = (0, c) :: r)
theorem Nrm.low {m : List T} (h : Nrm m) : Low 0 m := fun t ht => by
  rcases h.2 with rfl | ⟨c, r, hc, rfl⟩
  · simp at ht
  · rcases List.mem_cons.1 ht with rfl | ht
    · exact Int.le_refl _
    · have := h.1.2.1 t ht
      omega
end Pl

/- Polynomials in normal form are told by their values but for signs and powers: plain mathematics. -/
namespace Pl
theorem pv_sum0 {M K : Int} {l m : List T} (hM : (size l + size m : Nat) < M) (hl : Low K l) (hm : Low K m) (h : pv M K l + pv M K m = 0) (e : Int) : co l e + co m e = 0 := by
  have := pv_inj (M := M) (K := K) _ (l ++ m) (Nat.le_refl _) (fun t ht => (List.mem_append.1 ht).elim (hl t) (hm t)) (by rw [size_app]; exact hM) (by rw [pv_app]; exact h) e
  rwa [co_app] at this
theorem pv_neg (M K : Int) (l : List T) : pv M K (neg l) = -pv M K l := tot_neg _ _
theorem Low.neg {K : Int} {l : List T} (h : Low K l) : Low K (neg l) := fun t ht => by
  obtain ⟨u, hu, rfl⟩ := List.mem_map.1 ht
  exact h u hu
theorem nrm_mod {c : Int} {r : List T} (hf : Form ((0, c) :: r)) (M : Int) : ∃ q, pv M 0 ((0, c) :: r) = c + M * q := by
  have hd : M ∣ tot r fun x => M ^ (x + 0).toNat := tot_dvd fun u hu => by
    have h1 : (0 : Int) < u.1 := hf.2.1 u hu
    rw [show (u.1 + 0).toNat = (u.1 - 1).toNat + 1 by omega, Int.pow_succ, Int.mul_comm]
    exact ⟨_, rfl⟩
  obtain ⟨q, hq⟩ := hd
  refine ⟨q, ?_⟩
  show tot ((0, c) :: r) (fun x => M ^ (x + 0).toNat) = _
  rw [tot_cons, hq]
  simp
theorem nrm_coef {c : Int} {r : List T} {M : Int} (hc : 0 < c) (hM : (size ((0, c) :: r) : Int) < M) (hf : Form ((0, c) :: r)) : ¬ M ∣ pv M 0 ((0, c) :: r) := by
  obtain ⟨q, hq⟩ := nrm_mod hf M
  rw [size_cons] at hM
  have h1 : c < M := by
    have : ((0, c) : T).2.natAbs = c.natAbs := rfl
    omega
  rw [hq]
  rintro ⟨p, hp⟩
  have : c = M * (p - q) := by rw [Int.mul_sub]; omega
  rcases Int.lt_trichotomy (p - q) 0 with d | d | d
  · have : M * (p - q) ≤ M * (-1) := Int.mul_le_mul_of_nonneg_left (by omega) (by omega)
    omega
  · rw [d] at this; omega
  · have : M * 1 ≤ M * (p - q) := Int.mul_le_mul_of_nonneg_left (by omega) (by omega)
    omega
theorem nrm_nil {a : List T} (ha : Nrm a) {M : Int} (hM : (size a : Int) < M) (h : pv M 0 a = 0) : a = [] :=
  form_unique ha.1 (m := []) trivial fun e => by rw [pv_inj _ a (Nat.le_refl _) ha.low hM h e, co_nil]
theorem nrm_unique {a b : List T} (ha : Nrm a) (hb : Nrm b) (h : ∀ M : Int, 0 < M → ∃ (e : Int) (z : Int), (e = 1 ∨ e = -1) ∧ ev M a = e * (M : Rat) ^ z * ev M b) : a = b := by
  obtain ⟨M, hM⟩ : ∃ M : Int, M = (size a + size b : Nat) + 1 := ⟨_, rfl⟩
  have hM0 : 0 < M := by omega
  have hMr : (M : Rat) ≠ 0 := fun e => by rw [Rat.intCast_eq_zero_iff] at e; omega
  obtain ⟨e, z, he, k⟩ := h M hM0
  have ea := ev_pv hM0 ha.low
  have eb := ev_pv hM0 hb.low
  rw [Rat.zpow_zero] at ea eb
  have ea : ((pv M 0 a : Int) : Rat) = ev M a := by rw [ea]; grind
  have eb : ((pv M 0 b : Int) : Rat) = ev M b := by rw [eb]; grind
  rw [← ea, ← eb] at k
  -- as whole numbers
  have whole : (∃ n : Nat, pv M 0 a = e * M ^ n * pv M 0 b) ∨ ∃ n : Nat, M ^ (n + 1) * pv M 0 a = e * pv M 0 b := by
    rcases (show z < 0 ∨ 0 ≤ z by omega) with c | c
    · refine .inr ⟨(-z - 1).toNat, ?_⟩
      have h1 : (M : Rat) ^ ((-z - 1).toNat + 1) * (M : Rat) ^ z = 1 := by
        rw [← Rat.zpow_natCast, ← Rat.zpow_add hMr, show (((-z - 1).toNat + 1 : Nat) : Int) + z = 0 by omega, Rat.zpow_zero]
      refine Rat.intCast_inj.1 ?_
      rw [Rat.intCast_mul, Rat.intCast_mul, Rat.intCast_pow, k]
      grind
    · refine .inl ⟨z.toNat, ?_⟩
      refine Rat.intCast_inj.1 ?_
      rw [Rat.intCast_mul, Rat.intCast_mul, Rat.intCast_pow, k]
      have : (M : Rat) ^ z = (M : Rat) ^ z.toNat := by rw [← Rat.zpow_natCast]; congr 1; omega
      rw [this]
  have hMn : M ≠ 0 := by omega
  rcases ha.2 with rfl | ⟨c, r, hc, rfl⟩
  · -- nothing
    have h0 : pv M 0 b = 0 := by
      rcases whole with ⟨n, w⟩ | ⟨n, w⟩
      · rw [pv_nil] at w
        rcases Int.mul_eq_zero.1 w.symm with w | w
        · rcases Int.mul_eq_zero.1 w with w | w
          · omega
          · exact absurd w (Int.ne_of_gt (Int.pow_pos hM0))
        · exact w
      · rw [pv_nil, Int.mul_zero] at w
        rcases Int.mul_eq_zero.1 w.symm with w | w
        · omega
        · exact w
    exact (nrm_nil hb (by omega) h0).symm
  · rcases hb.2 with rfl | ⟨d, s, hd, rfl⟩
    · have h0 : pv M 0 ((0, c) :: r) = 0 := by
        rcases whole with ⟨n, w⟩ | ⟨n, w⟩
        · rw [pv_nil] at w; omega
        · rw [pv_nil, Int.mul_zero] at w
          rcases Int.mul_eq_zero.1 w with w | w
          · exact absurd w (Int.ne_of_gt (Int.pow_pos hM0))
          · exact w
      exact nrm_nil ha (by omega) h0
    · have na := nrm_coef (M := M) hc (by omega) ha.1
      have nb := nrm_coef (M := M) hd (by omega) hb.1
      have he' : e * e = 1 := by rcases he with rfl | rfl <;> rfl
      have same : pv M 0 ((0, c) :: r) = e * pv M 0 ((0, d) :: s) := by
        rcases whole with ⟨n, w⟩ | ⟨n, w⟩
        · cases n with
          | zero => rw [w, Int.pow_zero, Int.mul_one]
          | succ n =>
            exact absurd ⟨e * M ^ n * pv M 0 ((0, d) :: s), by rw [w, Int.pow_succ]; grind⟩ na
        · exact absurd ⟨e * (M ^ n * pv M 0 ((0, c) :: r)), by
            have : e * (M ^ (n + 1) * pv M 0 ((0, c) :: r)) = pv M 0 ((0, d) :: s) := by rw [w, ← Int.mul_assoc, he', Int.one_mul]
            rw [← this, Int.pow_succ]; grind⟩ nb
      rcases he with rfl | rfl
      · refine form_unique ha.1 hb.1 fun x => ?_
        have := pv_sum0 (M := M) (K := 0) (l := (0, c) :: r) (m := neg ((0, d) :: s)) (by rw [size_neg]; omega) ha.low hb.low.neg (by rw [pv_neg, same]; omega) x
        rw [co_neg] at this
        omega
      · exfalso
        have := pv_sum0 (M := M) (K := 0) (l := (0, c) :: r) (m := (0, d) :: s) (by omega) ha.low hb.low (by rw [same]; omega) 0
        rw [co_cons, co_cons, if_pos rfl, if_pos rfl, co_below ha.1.2.1, co_below hb.1.2.1] at this
        simp only at this
        omega
end Pl

/- Jones's sums over states at a number; those of a closed word, plain. -/
namespace Go.Proofs.YtdelekkbkpldjaaDoor.Kn
set_option linter.unusedVariables false

end Go.Proofs.YtdelekkbkpldjaaDoor.Kn

/- Determinants by sets of places, of any few rows: plain mathematics. -/
namespace Pl
open Go.Proofs.YtdelekkbkpldjaaDoor
/- bits -/
theorem bit_sub : ∀ (k s j : Nat), s.testBit k = true → (s - 2 ^ k).testBit j = (s.testBit j && decide (j ≠ k)) ∧ 2 ^ k ≤ s
  | 0, s, j, h => by
    have h0 : s % 2 = 1 := by simpa [Nat.testBit_zero] using h
    refine ⟨?_, by rw [Nat.pow_zero]; omega⟩
    cases j with
    | zero => simp [Nat.testBit_zero]; omega
    | succ j => rw [Nat.testBit_succ, Nat.testBit_succ, Nat.pow_zero, show (s - 1) / 2 = s / 2 by omega]; simp
  | k + 1, s, j, h => by
    rw [Nat.testBit_succ] at h
    have ih := bit_sub k (s / 2)
    have h2 := (ih 0 h).2
    have hp : 2 ^ (k + 1) = 2 * 2 ^ k := by rw [Nat.pow_succ]; omega
    refine ⟨?_, by omega⟩
    cases j with
    | zero => simp [Nat.testBit_zero]; omega
    | succ j =>
      rw [Nat.testBit_succ, Nat.testBit_succ, show (s - 2 ^ (k + 1)) / 2 = s / 2 - 2 ^ k by omega, (ih j h).1]
      congr 1
      exact decide_eq_decide.2 (by omega)
theorem pop_sub : ∀ (n k s : Nat), k < n → s.testBit k = true → Kn.pop n (s - 2 ^ k) + 1 = Kn.pop n s
  | n + 1, 0, s, _, h => by
    have h0 : s % 2 = 1 := by simpa [Nat.testBit_zero] using h
    rw [Kn.pop, Kn.pop, Nat.pow_zero, show (s - 1) / 2 = s / 2 by omega]; omega
  | n + 1, k + 1, s, hk, h => by
    rw [Nat.testBit_succ] at h
    have h2 := (bit_sub k (s / 2) 0 h).2
    have hp : 2 ^ (k + 1) = 2 * 2 ^ k := by rw [Nat.pow_succ]; omega
    have ih := pop_sub n k (s / 2) (by omega) h
    rw [Kn.pop, Kn.pop, show (s - 2 ^ (k + 1)) / 2 = s / 2 - 2 ^ k by omega]; omega
theorem pop_zero' : ∀ n, Kn.pop n 0 = 0
  | 0 => rfl
  | n + 1 => by rw [Kn.pop, show 0 / 2 = 0 from rfl, pop_zero' n]
theorem pop_pos' : ∀ {n s : Nat}, s < 2 ^ n → s ≠ 0 → 1 ≤ Kn.pop n s
  | 0, s, h, h0 => by rw [Nat.pow_zero] at h; omega
  | n + 1, s, h, h0 => by
    rw [Kn.pop]
    by_cases c : s / 2 = 0
    · omega
    · have := pop_pos' (n := n) (s := s / 2) (by rw [Nat.pow_succ] at h; omega) c
      omega
theorem pop_le' : ∀ (n s : Nat), Kn.pop n s ≤ n
  | 0, _ => Nat.le_refl _
  | n + 1, s => by
    rw [Kn.pop]
    have := pop_le' n (s / 2); omega
theorem pop_up : ∀ {n m st : Nat}, st < 2 ^ n → n ≤ m → Kn.pop m st = Kn.pop n st
  | 0, m, st, h, _ => by
    obtain rfl : st = 0 := by simpa using h
    rw [pop_zero', pop_zero']
  | n + 1, m + 1, st, h, hm => by
    rw [Kn.pop, Kn.pop, pop_up (n := n) (m := m) (by rw [Nat.pow_succ] at h; omega) (by omega)]
theorem pop_step {s : Nat} (h : s < 2 ^ 12) : Kn.pop 12 s = s % 2 + Kn.pop 12 (s / 2) := by
  show s % 2 + Kn.pop 11 (s / 2) = _
  rw [pop_up (n := 11) (m := 12) (by omega) (by omega)]

abbrev pp (s : Nat) : Nat := Kn.pop 12 s
def dterm (m : Tab) (t : Nat → List T) (s k : Nat) : List T := if s.testBit k then sc (sg (pp (s >>> (k + 1)))) (mul (ent m (pp s - 1) k) (t (s - 2 ^ k))) else []
def dout (m : Tab) (t : Nat → List T) (s : Nat) : Nat → List T
  | 0 => []
  | k + 1 => dout m t s k ++ dterm m t s k
def dtF (m : Tab) (n : Nat) : Nat → Nat → List T
  | 0, _ => [(0, 1)]
  | f + 1, s => if s = 0 then [(0, 1)] else dout m (dtF m n f) s n
def dt (m : Tab) (n s : Nat) : List T := dtF m n s s
theorem dout_congr {m : Tab} {t t' : Nat → List T} {s : Nat} (h : ∀ k, s.testBit k = true → t (s - 2 ^ k) = t' (s - 2 ^ k)) : ∀ k, dout m t s k = dout m t' s k
  | 0 => rfl
  | k + 1 => by
    rw [dout, dout, dout_congr h k]
    unfold dterm
    split
    · rw [h k (by assumption)]
    · rfl
theorem dtF_more (m : Tab) (n : Nat) : ∀ f s, s ≤ f → dtF m n f s = dt m n s
  | 0, s, h => by
    obtain rfl : s = 0 := by omega
    rfl
  | f + 1, 0, h => rfl
  | f + 1, s + 1, h => by
    have key : ∀ f', s ≤ f' → (∀ k, (s + 1).testBit k = true → dtF m n f' (s + 1 - 2 ^ k) = dt m n (s + 1 - 2 ^ k)) → dtF m n (f' + 1) (s + 1) = dout m (dt m n) (s + 1) n := fun f' _ hk => by
      show (if s + 1 = 0 then _ else dout m (dtF m n f') (s + 1) n) = _
      rw [if_neg (by omega)]
      exact dout_congr hk n
    have lt : ∀ k, (s + 1).testBit k = true → s + 1 - 2 ^ k ≤ s := fun k hk => by
      have := (bit_sub k (s + 1) 0 hk).2
      have := Nat.two_pow_pos k
      omega
    rw [key f (by omega) fun k hk => dtF_more m n f _ (by have := lt k hk; omega)]
    show _ = dtF m n (s + 1) (s + 1)
    by_cases c : f = s
    · subst c
      rw [key f (Nat.le_refl _) fun k hk => dtF_more m n f _ (lt k hk)]
    · rw [key s (Nat.le_refl _) fun k hk => dtF_more m n s _ (lt k hk)]
termination_by f => f
theorem dt_zero (m : Tab) (n : Nat) : dt m n 0 = [(0, 1)] := rfl
theorem dt_eq (m : Tab) (n : Nat) {s : Nat} (h0 : s ≠ 0) : dt m n s = dout m (dt m n) s n := by
  obtain ⟨r, rfl⟩ : ∃ r, s = r + 1 := ⟨s - 1, by omega⟩
  show (if r + 1 = 0 then [(0, 1)] else dout m (dtF m n r) (r + 1) n) = _
  rw [if_neg h0]
  refine dout_congr (fun k hk => dtF_more m n r _ ?_) n
  have := (bit_sub k (r + 1) 0 hk).2
  have := Nat.two_pow_pos k
  omega

/- bounds -/
def rsz (m : Tab) (i : Nat) : Nat → Nat
  | 0 => 0
  | k + 1 => rsz m i k + size (ent m i k)
theorem rsz_mono (m : Tab) (i : Nat) {j : Nat} : ∀ {k : Nat}, j ≤ k → rsz m i j ≤ rsz m i k
  | 0, h => by rw [show j = 0 by omega]; exact Nat.le_refl _
  | k + 1, h => by
    by_cases e : j = k + 1
    · rw [e]; exact Nat.le_refl _
    · have := rsz_mono m i (j := j) (k := k) (by omega)
      rw [rsz]; omega
theorem dout_size {m : Tab} {t : Nat → List T} {s B : Nat} (h : ∀ k, s.testBit k = true → size (t (s - 2 ^ k)) ≤ B) : ∀ k, size (dout m t s k) ≤ rsz m (pp s - 1) k * B
  | 0 => by simp [dout, size]
  | k + 1 => by
    have ih := dout_size (m := m) h k
    rw [dout, size_app, rsz, Nat.add_mul]
    have : size (dterm m t s k) ≤ size (ent m (pp s - 1) k) * B := by
      unfold dterm
      split
      · rw [sc_size (sg_one _), size_mul]
        exact Nat.mul_le_mul_left _ (h k (by assumption))
      · simp [size]
    omega
theorem dt_size {m : Tab} {n S : Nat} (hn : n ≤ 12) (hS : ∀ i, i < n → rsz m i n ≤ S) : ∀ (f s : Nat), s < f → s < 2 ^ n → size (dt m n s) ≤ S ^ pp s
  | f + 1, s, hf, hs => by
    by_cases h0 : s = 0
    · subst h0
      rw [dt_zero, show pp 0 = 0 from pop_zero' 12]
      simp [size]
    · have h12 : s < 2 ^ 12 := Nat.lt_of_lt_of_le hs (Nat.pow_le_pow_right (by omega) hn)
      obtain ⟨p, hp⟩ : ∃ p, pp s = p + 1 := ⟨pp s - 1, by have := pop_pos' h12 h0; show Kn.pop 12 s = Kn.pop 12 s - 1 + 1; omega⟩
      have hpn : p < n := by
        have h1 : Kn.pop 12 s = Kn.pop n s := pop_up hs hn
        have h2 := pop_le' n s
        have h3 : Kn.pop 12 s = p + 1 := hp
        omega
      rw [dt_eq m n h0]
      refine Nat.le_trans (dout_size (B := S ^ p) (fun k hk => ?_) n) ?_
      · have h1 := (bit_sub k s 0 hk).2
        have h2 := Nat.two_pow_pos k
        have hk12 : k < 12 := by
          refine Classical.byContradiction fun c => ?_
          have := Nat.pow_le_pow_right (show 0 < 2 by omega) (show 12 ≤ k by omega)
          omega
        have h3 : pp (s - 2 ^ k) = p := by
          have := pop_sub 12 k s hk12 hk
          have h4 : Kn.pop 12 s = p + 1 := hp
          show Kn.pop 12 (s - 2 ^ k) = p
          omega
        have := dt_size hn hS f (s - 2 ^ k) (by omega) (by omega)
        rwa [h3] at this
      · rw [hp, Nat.add_sub_cancel, Nat.pow_succ, Nat.mul_comm (S ^ p)]
        exact Nat.mul_le_mul_right _ (hS p hpn)
def ExpsW (E : Int) (l : List T) : Prop := ∀ t ∈ l, -E ≤ t.1 ∧ t.1 ≤ E
theorem ExpsW.mul {E F : Int} {a b : List T} (ha : ExpsW E a) (hb : ExpsW F b) : ExpsW (E + F) (mul a b) := by
  intro t ht
  simp only [Pl.mul, List.mem_flatMap, List.mem_map] at ht
  obtain ⟨x, hx, y, hy, rfl⟩ := ht
  have h1 := ha x hx
  have h2 := hb y hy
  show -(E + F) ≤ x.1 + y.1 ∧ x.1 + y.1 ≤ E + F
  omega
theorem ExpsW.sc {E : Int} {z : Int} {l : List T} (h : ExpsW E l) : ExpsW E (sc z l) := by
  intro t ht
  obtain ⟨u, hu, rfl⟩ := List.mem_map.1 ht
  exact h u hu
theorem ExpsW.mono {E F : Int} {l : List T} (h : ExpsW E l) (k : E ≤ F) : ExpsW F l := fun t ht => by have := h t ht; omega
theorem dout_exps {m : Tab} {t : Nat → List T} {s : Nat} {E F : Int} (he : ∀ i k, ExpsW E (ent m i k)) (h : ∀ k, s.testBit k = true → ExpsW F (t (s - 2 ^ k))) : ∀ k, ExpsW (E + F) (dout m t s k)
  | 0 => fun t ht => by simp [dout] at ht
  | k + 1 => by
    intro u hu
    rw [dout] at hu
    rcases List.mem_append.1 hu with hu | hu
    · exact dout_exps he h k u hu
    · unfold dterm at hu
      split at hu
      · exact ((he _ _).mul (h k (by assumption))).sc u hu
      · simp at hu
theorem dt_exps {m : Tab} {n : Nat} {E : Int} (hE : 0 ≤ E) (hn : n ≤ 12) (he : ∀ i k, ExpsW E (ent m i k)) : ∀ (f s : Nat), s < f → s < 2 ^ n → ExpsW ((pp s : Int) * E) (dt m n s)
  | f + 1, s, hf, hs => by
    by_cases h0 : s = 0
    · subst h0
      intro t ht
      rw [dt_zero] at ht
      simp at ht
      subst ht
      have : (0 : Int) ≤ (pp 0 : Int) * E := Int.mul_nonneg (by omega) hE
      show -((pp 0 : Int) * E) ≤ 0 ∧ 0 ≤ (pp 0 : Int) * E
      omega
    · have h12 : s < 2 ^ 12 := Nat.lt_of_lt_of_le hs (Nat.pow_le_pow_right (by omega) hn)
      obtain ⟨p, hp⟩ : ∃ p, pp s = p + 1 := ⟨pp s - 1, by have := pop_pos' h12 h0; show Kn.pop 12 s = Kn.pop 12 s - 1 + 1; omega⟩
      rw [dt_eq m n h0, hp]
      have := dout_exps (m := m) (t := dt m n) (s := s) (E := E) (F := (p : Int) * E) he (fun k hk => ?_) n
      · refine this.mono ?_
        rw [show (((p + 1 : Nat) : Int)) * E = (p : Int) * E + E by rw [Int.natCast_add, Int.add_mul]; simp]
        omega
      · have h1 := (bit_sub k s 0 hk).2
        have h2 := Nat.two_pow_pos k
        have hk12 : k < 12 := by
          refine Classical.byContradiction fun c => ?_
          have := Nat.pow_le_pow_right (show 0 < 2 by omega) (show 12 ≤ k by omega)
          omega
        have h3 : pp (s - 2 ^ k) = p := by
          have := pop_sub 12 k s hk12 hk
          have h4 : Kn.pop 12 s = p + 1 := hp
          show Kn.pop 12 (s - 2 ^ k) = p
          omega
        have := dt_exps hE hn he f (s - 2 ^ k) (by omega) (by omega)
        rwa [h3] at this

/- values -/
def dn (q : Nat → Bool) : Nat → List Nat
  | 0 => []
  | k + 1 => if q k then k :: dn q k else dn q k
def hgh (q : Nat → Bool) : Nat → Nat → List Nat
  | 0, _ => []
  | d + 1, k => hgh q d (k + 1) ++ (if q k then [k] else [])
theorem dn_split (q : Nat → Bool) : ∀ d k, dn q (k + d) = hgh q d k ++ dn q k
  | 0, k => rfl
  | d + 1, k => by
    rw [show k + (d + 1) = k + 1 + d by omega, dn_split q d (k + 1), hgh, List.append_assoc, dn]
    split <;> rfl
theorem dn_congr {q r : Nat → Bool} : ∀ {k : Nat}, (∀ j, j < k → q j = r j) → dn q k = dn r k
  | 0, _ => rfl
  | k + 1, h => by rw [dn, dn, h k (by omega), dn_congr fun j hj => h j (by omega)]
theorem hgh_congr {q r : Nat → Bool} : ∀ {d k : Nat}, (∀ j, k ≤ j → q j = r j) → hgh q d k = hgh r d k
  | 0, _, _ => rfl
  | d + 1, k, h => by rw [hgh, hgh, h k (Nat.le_refl _), hgh_congr fun j hj => h j (by omega)]
theorem hgh_len {s : Nat} (h12 : s < 2 ^ 12) : ∀ (d k : Nat), s < 2 ^ (k + d) → (hgh s.testBit d k).length = pp (s >>> k)
  | 0, k, h => by
    rw [Nat.add_zero] at h
    rw [Nat.shiftRight_eq_div_pow, Nat.div_eq_of_lt h]
    exact (pop_zero' 12).symm
  | d + 1, k, h => by
    have hlt : s >>> k < 2 ^ 12 := Nat.lt_of_le_of_lt (Nat.shiftRight_le s k) h12
    rw [hgh, List.length_append, hgh_len h12 d (k + 1) (by rw [show k + 1 + d = k + (d + 1) by omega]; exact h)]
    show _ = Kn.pop 12 (s >>> k)
    rw [pop_step hlt]
    have e1 : s >>> k / 2 = s >>> (k + 1) := by rw [Nat.shiftRight_succ]
    rw [e1]
    have e2 : s >>> k % 2 = if s.testBit k = true then 1 else 0 := by
      rw [Nat.testBit, Nat.one_and_eq_mod_two]
      rcases Nat.mod_two_eq_zero_or_one (s >>> k) with h | h <;> simp [h]
    rw [e2]
    show pp (s >>> (k + 1)) + _ = _ + pp (s >>> (k + 1))
    split <;> simp <;> omega
def rowF (t : Rat) (m : Tab) (i : Nat) : Kn.Row := fun c => ev t (ent m i c)
def rowsD (t : Rat) (m : Tab) : Nat → List Kn.Row
  | 0 => []
  | p + 1 => rowF t m p :: rowsD t m p
theorem sg_succ (b : Nat) : sg (b + 1) = -sg b := by unfold sg; omega
theorem dout_ev {t : Rat} (ht : t ≠ 0) {m : Tab} {n s p : Nat} (hn : n ≤ 12) (hs : s < 2 ^ n) (hp : pp s = p + 1) (ih : ∀ k, k < n → s.testBit k = true → ev t (dt m n (s - 2 ^ k)) = Kn.Dv (rowsD t m p) (dn (s - 2 ^ k).testBit n)) :
    ∀ k, k ≤ n → ev t (dout m (dt m n) s k) = (sg (pp (s >>> k)) : Rat) * Kn.lap (rowF t m p) (fun l => Kn.D (rowsD t m p) (Kn.rd (hgh s.testBit (n - k) k) ++ l)) (Kn.rd (dn s.testBit k))
  | 0, _ => by
    show (0 : Rat) = _ * Kn.lap _ _ []
    rw [Kn.lap]; grind
  | k + 1, hk => by
    have h12 : s < 2 ^ 12 := Nat.lt_of_lt_of_le hs (Nat.pow_le_pow_right (by omega) hn)
    have i := dout_ev ht hn hs hp ih k (by omega)
    have hh : hgh s.testBit (n - k) k = hgh s.testBit (n - (k + 1)) (k + 1) ++ (if s.testBit k then [k] else []) := by
      rw [show n - k = (n - (k + 1)) + 1 by omega, hgh]
    rw [dout, ev_app, i]
    unfold dterm
    by_cases hb : s.testBit k = true
    · rw [if_pos hb, ev_sc, ev_mul ht, ih k (by omega) hb, hp, Nat.add_sub_cancel]
      rw [if_pos hb] at hh
      have l1 := hgh_len h12 (n - k) k (by rw [show k + (n - k) = n by omega]; exact hs)
      have l2 := hgh_len h12 (n - (k + 1)) (k + 1) (by rw [show k + 1 + (n - (k + 1)) = n by omega]; exact hs)
      rw [hh, List.length_append, List.length_singleton, l2] at l1
      rw [← l1, sg_succ, Rat.intCast_neg]
      have ed : dn s.testBit (k + 1) = k :: dn s.testBit k := by rw [dn, if_pos hb]
      rw [ed]
      have e2 : dn (s - 2 ^ k).testBit n = hgh s.testBit (n - (k + 1)) (k + 1) ++ dn s.testBit k := by
        have := dn_split (s - 2 ^ k).testBit (n - (k + 1)) (k + 1)
        rw [show k + 1 + (n - (k + 1)) = n by omega] at this
        rw [this]
        have b1 := bit_sub k s
        congr 1
        · exact hgh_congr fun j hj => by rw [(b1 j hb).1, decide_eq_true (by omega), Bool.and_true]
        · rw [dn, (b1 k hb).1]
          simp only [ne_eq, not_true_eq_false, decide_false, Bool.and_false, Bool.false_eq_true, if_false]
          exact dn_congr fun j hj => by rw [(b1 j hb).1, decide_eq_true (by omega), Bool.and_true]
      rw [e2, hh]
      show _ = _ * Kn.lap _ _ ((fun r : Kn.Row => r k) :: Kn.rd (dn s.testBit k))
      rw [Kn.lap]
      have e3 : Kn.Dv (rowsD t m p) (hgh s.testBit (n - (k + 1)) (k + 1) ++ dn s.testBit k) = Kn.D (rowsD t m p) (Kn.rd (hgh s.testBit (n - (k + 1)) (k + 1)) ++ Kn.rd (dn s.testBit k)) := by
        unfold Kn.Dv Kn.rd; rw [List.map_append]
      have e4 : (fun l => Kn.D (rowsD t m p) (Kn.rd (hgh s.testBit (n - (k + 1)) (k + 1) ++ [k]) ++ l)) = fun l => Kn.D (rowsD t m p) (Kn.rd (hgh s.testBit (n - (k + 1)) (k + 1)) ++ (fun r : Kn.Row => r k) :: l) := funext fun l => by
        unfold Kn.rd; rw [List.map_append, List.map_singleton, List.append_assoc, List.singleton_append]
      rw [e3, e4]
      show _ = _ * (rowF t m p k * _ - _)
      have e5 : ev t (ent m p k) = rowF t m p k := rfl
      rw [e5]
      grind
    · rw [if_neg hb]
      rw [if_neg hb, List.append_nil] at hh
      have l1 := hgh_len h12 (n - k) k (by rw [show k + (n - k) = n by omega]; exact hs)
      have l2 := hgh_len h12 (n - (k + 1)) (k + 1) (by rw [show k + 1 + (n - (k + 1)) = n by omega]; exact hs)
      rw [hh, l2] at l1
      have ed : dn s.testBit (k + 1) = dn s.testBit k := by rw [dn, if_neg hb]
      rw [hh, ← l1, ed, ev_nil]
      grind
theorem dt_ev {t : Rat} (ht : t ≠ 0) {m : Tab} {n : Nat} (hn : n ≤ 12) : ∀ (f s : Nat), s < f → s < 2 ^ n → ev t (dt m n s) = Kn.Dv (rowsD t m (pp s)) (dn s.testBit n)
  | f + 1, s, hf, hs => by
    by_cases h0 : s = 0
    · subst h0
      have : dn (Nat.testBit 0) n = [] := by
        have : ∀ k, dn (Nat.testBit 0) k = [] := by
          intro k
          induction k with
          | zero => rfl
          | succ k ih => rw [dn, Nat.zero_testBit]; exact ih
        exact this n
      rw [dt_zero, this, show pp 0 = 0 from pop_zero' 12]
      show ev t [(0, 1)] = 1
      rw [ev_cons, ev_nil]
      simp only [Rat.zpow_zero]
      have : ((1 : Int) : Rat) = 1 := rfl
      rw [this]; grind
    · have h12 : s < 2 ^ 12 := Nat.lt_of_lt_of_le hs (Nat.pow_le_pow_right (by omega) hn)
      obtain ⟨p, hp⟩ : ∃ p, pp s = p + 1 := ⟨pp s - 1, by have := pop_pos' h12 h0; show Kn.pop 12 s = Kn.pop 12 s - 1 + 1; omega⟩
      have ih : ∀ k, k < n → s.testBit k = true → ev t (dt m n (s - 2 ^ k)) = Kn.Dv (rowsD t m p) (dn (s - 2 ^ k).testBit n) := fun k hk hb => by
        have h1 := (bit_sub k s 0 hb).2
        have h2 := Nat.two_pow_pos k
        have h3 : pp (s - 2 ^ k) = p := by
          have := pop_sub 12 k s (by omega) hb
          have h4 : Kn.pop 12 s = p + 1 := hp
          show Kn.pop 12 (s - 2 ^ k) = p
          omega
        have := dt_ev (m := m) ht hn f (s - 2 ^ k) (by omega) (by omega)
        rwa [h3] at this
      rw [dt_eq m n h0, dout_ev ht hn hs hp ih n (Nat.le_refl _), hp, Nat.shiftRight_eq_div_pow, Nat.div_eq_of_lt hs, show pp 0 = 0 from pop_zero' 12, Nat.sub_self]
      have e1 : (sg 0 : Rat) = 1 := rfl
      rw [e1]
      have e2 : (fun l => Kn.D (rowsD t m p) (Kn.rd (hgh s.testBit 0 n) ++ l)) = Kn.D (rowsD t m p) := rfl
      rw [e2]
      show 1 * Kn.D (rowF t m p :: rowsD t m p) _ = Kn.D (rowsD t m (p + 1)) _
      rw [rowsD]; grind
theorem dn_all {q : Nat → Bool} : ∀ {n : Nat}, (∀ j, j < n → q j = true) → (dn q n).Perm (List.range n)
  | 0, _ => .nil
  | n + 1, h => by
    rw [dn, if_pos (h n (by omega)), List.range_succ]
    exact ((dn_all fun j hj => h j (by omega)).cons n).trans (List.perm_append_comm (l₁ := [n]))
theorem rowsD_perm (t : Rat) (m : Tab) : ∀ n, (rowsD t m n).Perm ((List.range n).map (rowF t m))
  | 0 => .nil
  | n + 1 => by
    rw [rowsD, List.range_succ, List.map_append]
    exact ((rowsD_perm t m n).cons _).trans (List.perm_append_comm (l₁ := [rowF t m n]))
theorem pop_all : ∀ n, Kn.pop n (2 ^ n - 1) = n
  | 0 => rfl
  | n + 1 => by
    have := Nat.two_pow_pos n
    have hp : 2 ^ (n + 1) = 2 * 2 ^ n := by rw [Nat.pow_succ]; omega
    rw [Kn.pop, show (2 ^ (n + 1) - 1) / 2 = 2 ^ n - 1 by omega, pop_all n]; omega
/- THE DETERMINANT, but for a sign. -/
theorem det_ev {t : Rat} (ht : t ≠ 0) {m : Tab} {n : Nat} (hn : n ≤ 12) : Kn.Eu t (ev t (dt m n (2 ^ n - 1))) (Kn.Dv ((List.range n).map (rowF t m)) (List.range n)) := by
  have h2 := Nat.two_pow_pos n
  have hs : 2 ^ n - 1 < 2 ^ n := by omega
  have hb : ∀ j, j < n → (2 ^ n - 1).testBit j = true := fun j hj => by rw [Nat.testBit_two_pow_sub_one]; exact decide_eq_true hj
  have hp : pp (2 ^ n - 1) = n := (pop_up hs hn).trans (pop_all n)
  rw [dt_ev ht hn _ _ (Nat.lt_succ_self _) hs, hp]
  obtain ⟨e, he, k⟩ := Kn.Dv_cols (dn_all hb)
  rw [k]
  exact (Kn.Eu.un (Kn.Un.sg he)).trans ht (Kn.Eu.rows (rowsD_perm t m n) _)
end Pl

/- Closed words: one link, one polynomial; plain. -/
namespace Go.Proofs.YtdelekkbkpldjaaDoor.Kn
set_option linter.unusedVariables false

/-- What Alexander tells. -/
def AlexIs (X : List Cr) (L : Nat) (a : List Pl.T) : Prop := Pl.Nrm a ∧ ∀ t : Rat, t ≠ 0 → Eu t (Pl.ev t a) (alexV t X L)
theorem nrm_eu {a b : List Pl.T} (ha : Pl.Nrm a) (hb : Pl.Nrm b) (h : ∀ t : Rat, t ≠ 0 → Eu t (Pl.ev t a) (Pl.ev t b)) : a = b :=
  Pl.nrm_unique ha hb fun M hM => by
    have hM0 : (M : Rat) ≠ 0 := fun e => by rw [Rat.intCast_eq_zero_iff] at e; omega
    obtain ⟨c, ⟨e, z, he, rfl⟩, k⟩ := h M hM0
    rcases he with rfl | rfl
    · exact ⟨1, z, .inl rfl, by rw [k]; rfl⟩
    · exact ⟨-1, z, .inr rfl, by rw [k]; rfl⟩
/-- Polynomials in form, from 0 on. -/
theorem norm_of {m0 a : List Pl.T} {e c : Int} {r : List Pl.T} (hf : Pl.Form m0) (hm : m0 = (e, c) :: r) (h : Pl.Is a (m0.map fun u => (u.1 + -e, (if c < 0 then -1 else 1) * u.2))) :
    Pl.Nrm a ∧ Pl.size a = Pl.size m0 ∧ ∀ t : Rat, t ≠ 0 → Eu t (Pl.ev t a) (Pl.ev t m0) := by
  have hs : (if c < 0 then (-1 : Int) else 1) = 1 ∨ (if c < 0 then (-1 : Int) else 1) = -1 := by split; exact .inr rfl; exact .inl rfl
  have hform : ∀ l : List Pl.T, Pl.Form l → Pl.Form (l.map fun u => (u.1 + -e, (if c < 0 then -1 else 1) * u.2)) := by
    intro l
    induction l with
    | nil => intro _; trivial
    | cons u l ih =>
      intro hl
      refine ⟨?_, fun v hv => ?_, ih hl.2.2⟩
      · have := hl.1
        show (if c < 0 then (-1 : Int) else 1) * u.2 ≠ 0
        rcases hs with e | e <;> rw [e] <;> omega
      · obtain ⟨x, hx, rfl⟩ := List.mem_map.1 hv
        have := hl.2.1 x hx
        show u.1 + -e < x.1 + -e
        omega
  have ea : a = m0.map fun u => (u.1 + -e, (if c < 0 then -1 else 1) * u.2) := Pl.form_unique h.1 (hform m0 hf) h.2
  have hsz : ∀ l : List Pl.T, Pl.size (l.map fun u => (u.1 + -e, (if c < 0 then -1 else 1) * u.2)) = Pl.size l := by
    intro l
    induction l with
    | nil => rfl
    | cons u l ih =>
      rw [List.map_cons, Pl.size_cons, Pl.size_cons, ih]
      show ((if c < 0 then (-1 : Int) else 1) * u.2).natAbs + _ = _
      rcases hs with e | e <;> rw [e] <;> omega
  refine ⟨⟨h.1, .inr ?_⟩, by rw [ea, hsz], fun t ht => ?_⟩
  · rw [ea, hm, List.map_cons]
    refine ⟨(if c < 0 then -1 else 1) * c, _, ?_, by rw [show e + -e = 0 by omega]⟩
    have : c ≠ 0 := by rw [hm] at hf; exact hf.1
    split <;> omega
  · rw [ea, Pl.ev_sh ht]
    rcases hs with e' | e'
    · exact Eu.un ⟨1, -e, .inl rfl, by rw [e']; rfl⟩
    · exact Eu.un ⟨-1, -e, .inr rfl, by rw [e']; rfl⟩

/-- A row of the table of a diagram. -/
def entA (X : List Cr) (k c : Nat) : List Pl.T := (if overP X (aTo X k) = c then [(0, 1)] else []) ++ (if overP X (aIn X k) = c then [(1, -1)] else []) ++ (if overP X (arcN X (k, 1)) = c then [(1, 1), (0, -1)] else [])
theorem entA_ev {t : Rat} (ht : t ≠ 0) (X : List Cr) (k c : Nat) : Pl.ev t (entA X k c) = arow t X k c := by
  have e1 : ((1 : Int) : Rat) = 1 := rfl
  have e2 : ((-1 : Int) : Rat) = -1 := rfl
  unfold entA arow
  rw [Pl.ev_app, Pl.ev_app]
  by_cases c1 : overP X (aTo X k) = c <;> by_cases c2 : overP X (aIn X k) = c <;> by_cases c3 : overP X (arcN X (k, 1)) = c <;>
    simp only [c1, c2, c3, if_true, if_false, Pl.ev_cons, Pl.ev_nil, Rat.zpow_zero, Rat.zpow_one, e1, e2] <;> grind
def tabA (X : List Cr) (n m : Nat) : Pl.Tab := (List.range n).map fun k => (List.range m).map fun c => entA X k c
theorem tabA_ent {X : List Cr} {n m k c : Nat} (hk : k < n) (hc : c < m) : Pl.ent (tabA X n m) k c = entA X k c := by
  unfold Pl.ent tabA
  simp [List.getD_eq_getElem?_getD, hk, hc]
theorem tabA_out {X : List Cr} {n m k c : Nat} (h : ¬ (k < n ∧ c < m)) : Pl.ent (tabA X n m) k c = [] := by
  unfold Pl.ent tabA
  by_cases hk : k < n
  · have hc : ¬ c < m := fun hc => h ⟨hk, hc⟩
    simp [List.getD_eq_getElem?_getD, hk, hc]
  · simp [List.getD_eq_getElem?_getD, hk]
theorem entA_exps (X : List Cr) (k c : Nat) : Pl.ExpsW 1 (entA X k c) := by
  intro t ht
  unfold entA at ht
  rcases List.mem_append.1 ht with ht | ht
  · rcases List.mem_append.1 ht with ht | ht
    · split at ht
      · rw [List.mem_singleton] at ht; subst ht; decide
      · simp at ht
    · split at ht
      · rw [List.mem_singleton] at ht; subst ht; decide
      · simp at ht
  · split at ht
    · simp only [List.mem_cons, List.not_mem_nil, or_false] at ht
      rcases ht with rfl | rfl <;> decide
    · simp at ht
theorem tabA_exps (X : List Cr) (n m k c : Nat) : Pl.ExpsW 1 (Pl.ent (tabA X n m) k c) := by
  by_cases h : k < n ∧ c < m
  · rw [tabA_ent h.1 h.2]; exact entA_exps X k c
  · rw [tabA_out h]; intro t ht; simp at ht
theorem entA_size (X : List Cr) (k c : Nat) : Pl.size (entA X k c) = (if overP X (aTo X k) = c then 1 else 0) + (if overP X (aIn X k) = c then 1 else 0) + (if overP X (arcN X (k, 1)) = c then 2 else 0) := by
  unfold entA
  rw [Pl.size_app, Pl.size_app]
  congr 1
  · congr 1
    · split <;> rfl
    · split <;> rfl
  · split <;> rfl
theorem tabA_rsz (X : List Cr) (n m k : Nat) : ∀ c, Pl.rsz (tabA X n m) k c ≤ (if overP X (aTo X k) < c then 1 else 0) + (if overP X (aIn X k) < c then 1 else 0) + (if overP X (arcN X (k, 1)) < c then 2 else 0)
  | 0 => by rw [Pl.rsz]; omega
  | c + 1 => by
    have ih := tabA_rsz X n m k c
    rw [Pl.rsz]
    have h2 : Pl.size (Pl.ent (tabA X n m) k c) ≤ (if overP X (aTo X k) = c then 1 else 0) + (if overP X (aIn X k) = c then 1 else 0) + (if overP X (arcN X (k, 1)) = c then 2 else 0) := by
      by_cases h : k < n ∧ c < m
      · rw [tabA_ent h.1 h.2, entA_size]; exact Nat.le_refl _
      · rw [tabA_out h]; exact Nat.zero_le _
    have key : ∀ (x z : Nat), (if x < c then z else 0) + (if x = c then z else 0) ≤ if x < c + 1 then z else 0 := fun x z => by
      rcases Nat.lt_trichotomy x c with h | h | h
      · rw [if_pos h, if_neg (by omega), if_pos (by omega)]; exact Nat.le_refl _
      · rw [if_neg (by omega), if_pos h, if_pos (by omega), Nat.zero_add]; exact Nat.le_refl _
      · rw [if_neg (by omega), if_neg (by omega)]; exact Nat.zero_le _
    have k1 := key (overP X (aTo X k)) 1
    have k2 := key (overP X (aIn X k)) 1
    have k3 := key (overP X (arcN X (k, 1))) 2
    omega
theorem tabA_four (X : List Cr) (n m k c : Nat) : Pl.rsz (tabA X n m) k c ≤ 4 := by
  have := tabA_rsz X n m k c
  have key : ∀ (x z : Nat), (if x < c then z else 0) ≤ z := fun x z => by split <;> omega
  have k1 := key (overP X (aTo X k)) 1
  have k2 := key (overP X (aIn X k)) 1
  have k3 := key (overP X (arcN X (k, 1))) 2
  omega
/-- The determinant of a diagram's table without some rows and places. -/
theorem tabA_det {t : Rat} (ht : t ≠ 0) {X : List Cr} {n : Nat} (hn : n ≤ 12) : Eu t (Pl.ev t (Pl.dt (tabA X n n) n (2 ^ n - 1))) (Dv ((List.range n).map (arow t X)) (List.range n)) := by
  have h := Pl.det_ev ht (m := tabA X n n) hn
  have e : Dv ((List.range n).map (Pl.rowF t (tabA X n n))) (List.range n) = Dv ((List.range n).map (arow t X)) (List.range n) := by
    refine Dv_congr (by simp) fun i v hv => ?_
    have hv := List.mem_range.1 hv
    by_cases hi : i < n
    · simp only [List.getD_eq_getElem?_getD, List.getElem?_map, List.getElem?_range hi, Option.map_some, Option.getD_some]
      show Pl.ev t (Pl.ent (tabA X n n) i v) = _
      rw [tabA_ent hi hv, entA_ev ht]
    · simp [List.getD_eq_getElem?_getD, hi]
  rw [e] at h
  exact h
end Go.Proofs.YtdelekkbkpldjaaDoor.Kn

/- Burau's table of a word, plain: what it tells at a number; one less it. -/
namespace Go.Proofs.YtdelekkbkpldjaaDoor.Kn
set_option linter.unusedVariables false

/-- The table of a letter. -/
def sm (a : Int) (j k : Nat) : List Pl.T :=
  if 0 < a then (if j = 0 then (if k = 0 then [(0, 1), (1, -1)] else [(1, 1)]) else (if k = 0 then [(0, 1)] else []))
  else (if j = 0 then (if k = 0 then [] else [(0, 1)]) else (if k = 0 then [(-1, 1)] else [(0, 1), (-1, -1)]))
def stepB (a : Int) (b : Nat → Nat → List Pl.T) : Nat → Nat → List Pl.T := fun r c =>
  if c = a.natAbs - 1 then Pl.mul (b r (a.natAbs - 1)) (sm a 0 0) ++ Pl.mul (b r (a.natAbs - 1 + 1)) (sm a 1 0)
  else if c = a.natAbs - 1 + 1 then Pl.mul (b r (a.natAbs - 1)) (sm a 0 1) ++ Pl.mul (b r (a.natAbs - 1 + 1)) (sm a 1 1)
  else b r c
def unitB (r c : Nat) : List Pl.T := if r = c then [(0, 1)] else []
def burB (w : List Int) : Nat → Nat → Nat → List Pl.T
  | 0 => unitB
  | k + 1 => stepB (w.getD k 0) (burB w k)
theorem sm_size (a : Int) (j k : Nat) : Pl.size (sm a j k) ≤ 2 := by
  unfold sm
  split <;> split <;> split <;> decide
theorem sm_exps (a : Int) (j k : Nat) : Pl.ExpsW 1 (sm a j k) := by
  intro t ht
  unfold sm at ht
  split at ht <;> split at ht <;> split at ht <;> simp only [List.mem_cons, List.not_mem_nil, or_false, List.mem_singleton] at ht
  all_goals first | exact ht.elim | (rcases ht with rfl | rfl <;> decide) | (subst ht; decide)
theorem bur_size (w : List Int) : ∀ k r c, Pl.size (burB w k r c) ≤ 4 ^ k
  | 0, r, c => by show Pl.size (unitB r c) ≤ 1; unfold unitB; split <;> decide
  | k + 1, r, c => by
    have ih := bur_size w k
    show Pl.size (stepB _ _ r c) ≤ _
    have h4 : 4 ^ (k + 1) = 4 ^ k * 4 := Nat.pow_succ _ _
    have key : ∀ x y i j i' j', Pl.size (Pl.mul (burB w k r x) (sm (w.getD k 0) i j) ++ Pl.mul (burB w k r y) (sm (w.getD k 0) i' j')) ≤ 4 ^ (k + 1) := fun x y i j i' j' => by
      rw [Pl.size_app, Pl.size_mul, Pl.size_mul]
      have := Nat.mul_le_mul (ih r x) (sm_size (w.getD k 0) i j)
      have := Nat.mul_le_mul (ih r y) (sm_size (w.getD k 0) i' j')
      omega
    unfold stepB
    split
    · exact key _ _ _ _ _ _
    · split
      · exact key _ _ _ _ _ _
      · have := ih r c; omega
theorem bur_exps (w : List Int) : ∀ k r c, Pl.ExpsW (k : Nat) (burB w k r c)
  | 0, r, c => by
    intro t ht
    have ht : t ∈ unitB r c := ht
    unfold unitB at ht
    split at ht
    · rw [List.mem_singleton] at ht; subst ht; decide
    · simp at ht
  | k + 1, r, c => by
    have ih := bur_exps w k
    show Pl.ExpsW _ (stepB _ _ r c)
    have key : ∀ x y i j i' j', Pl.ExpsW ((k + 1 : Nat) : Int) (Pl.mul (burB w k r x) (sm (w.getD k 0) i j) ++ Pl.mul (burB w k r y) (sm (w.getD k 0) i' j')) := fun x y i j i' j' t ht => by
      rcases List.mem_append.1 ht with ht | ht
      · have := (ih r x).mul (sm_exps (w.getD k 0) i j) t ht; omega
      · have := (ih r y).mul (sm_exps (w.getD k 0) i' j') t ht; omega
    unfold stepB
    split
    · exact key _ _ _ _ _ _
    · split
      · exact key _ _ _ _ _ _
      · exact (ih r c).mono (by omega)
theorem bur_ev {t : Rat} (ht : t ≠ 0) {w : List Int} : ∀ k r c, Pl.ev t (burB w k r c) = t ^ ((c : Int) - (r : Int)) * levF t w k c r
  | 0, r, c => by
    show Pl.ev t (unitB r c) = _ * unit c r
    have e1 : ((1 : Int) : Rat) = 1 := rfl
    unfold unitB unit
    by_cases h : r = c
    · subst h
      rw [if_pos rfl, if_pos rfl, Pl.ev_cons, Pl.ev_nil, Int.sub_self]
      simp only [Rat.zpow_zero, e1]; grind
    · rw [if_neg h, if_neg h, Pl.ev_nil]; grind
  | k + 1, r, c => by
    have ih := bur_ev ht (w := w) k
    show Pl.ev t (stepB _ _ r c) = _ * stepF t (w.getD k 0) (levF t w k) c r
    have e1 : ((1 : Int) : Rat) = 1 := rfl
    have e2 : ((-1 : Int) : Rat) = -1 := rfl
    have hinv : t * t⁻¹ = 1 := Rat.mul_inv_cancel t ht
    have m1 : t ^ (-1 : Int) = t⁻¹ := by rw [Rat.zpow_neg, Rat.zpow_one]
    obtain ⟨i, hi⟩ : ∃ i, i = (w.getD k 0).natAbs - 1 := ⟨_, rfl⟩
    have hz : t ^ (((i + 1 : Nat) : Int) - (r : Int)) = t * t ^ ((i : Int) - (r : Int)) := by
      rw [show ((i + 1 : Nat) : Int) - (r : Int) = 1 + ((i : Int) - (r : Int)) by omega, Rat.zpow_add ht, Rat.zpow_one]
    unfold stepB stepF
    rw [← hi]
    by_cases ha : 0 < w.getD k 0
    · rw [if_pos ha]
      by_cases c1 : c = i
      · subst c1
        rw [if_pos rfl, if_pos rfl, Pl.ev_app, Pl.ev_mul ht, Pl.ev_mul ht, ih, ih]
        unfold sm
        simp only [if_pos ha, if_true, Nat.one_ne_zero, if_false, Pl.ev_cons, Pl.ev_nil, Rat.zpow_zero, Rat.zpow_one, e1, e2]
        rw [hz]; grind
      · rw [if_neg c1, if_neg c1]
        by_cases c2 : c = i + 1
        · subst c2
          rw [if_pos rfl, if_pos rfl, Pl.ev_app, Pl.ev_mul ht, Pl.ev_mul ht, ih, ih]
          unfold sm
          simp only [if_pos ha, if_true, Nat.one_ne_zero, if_false, Pl.ev_cons, Pl.ev_nil, Rat.zpow_zero, Rat.zpow_one, e1, e2]
          rw [hz]; grind
        · rw [if_neg c2, if_neg c2, ih]
    · rw [if_neg ha]
      by_cases c1 : c = i
      · subst c1
        rw [if_pos rfl, if_pos rfl, Pl.ev_app, Pl.ev_mul ht, Pl.ev_mul ht, ih, ih]
        unfold sm
        simp only [if_neg ha, if_true, Nat.one_ne_zero, if_false, Pl.ev_cons, Pl.ev_nil, Rat.zpow_zero, Rat.zpow_one, e1, e2, m1]
        rw [hz]; grind
      · rw [if_neg c1, if_neg c1]
        by_cases c2 : c = i + 1
        · subst c2
          rw [if_pos rfl, if_pos rfl, Pl.ev_app, Pl.ev_mul ht, Pl.ev_mul ht, ih, ih]
          unfold sm
          simp only [if_neg ha, if_true, Nat.one_ne_zero, if_false, Pl.ev_cons, Pl.ev_nil, Rat.zpow_zero, Rat.zpow_one, e1, e2, m1]
          rw [hz]; grind
        · rw [if_neg c2, if_neg c2, ih]
/-- One less the table, without its last row and places. -/
def lessR (t : Rat) (w : List Int) (r : Nat) : Row := fun c => unit r c - t ^ ((c : Int) - (r : Int)) * outF t w unit c r
theorem less_det {t : Rat} (ht : t ≠ 0) (w : List Int) {k : Nat} (h1 : 1 ≤ k) (h3 : k ≤ 3) : Eu t (Dv ((List.range k).map (lessR t w)) (List.range k)) (Dv ((List.range k).map fun p z => outF t w unit p z - unit p z) (List.range k)) := by
  have hinv : t * t⁻¹ = 1 := Rat.mul_inv_cancel t ht
  have m1 : t ^ (-1 : Int) = t⁻¹ := by rw [Rat.zpow_neg, Rat.zpow_one]
  have p2 : t ^ (2 : Int) = t * t := by rw [show (2 : Int) = 1 + 1 by rfl, Rat.zpow_add ht, Rat.zpow_one]
  have m2 : t ^ (-2 : Int) = t⁻¹ * t⁻¹ := by
    rw [show (-2 : Int) = -1 + -1 by rfl, Rat.zpow_add ht, m1]
  have hk : k = 1 ∨ k = 2 ∨ k = 3 := by omega
  have z0 : t ^ (((0 : Nat) : Int) - ((0 : Nat) : Int)) = 1 := Rat.zpow_zero t
  have z1 : t ^ (((1 : Nat) : Int) - ((1 : Nat) : Int)) = 1 := Rat.zpow_zero t
  have z2 : t ^ (((2 : Nat) : Int) - ((2 : Nat) : Int)) = 1 := Rat.zpow_zero t
  have z01 : t ^ (((1 : Nat) : Int) - ((0 : Nat) : Int)) = t := Rat.zpow_one t
  have z12 : t ^ (((2 : Nat) : Int) - ((1 : Nat) : Int)) = t := Rat.zpow_one t
  have z02 : t ^ (((2 : Nat) : Int) - ((0 : Nat) : Int)) = t * t := p2
  have z10 : t ^ (((0 : Nat) : Int) - ((1 : Nat) : Int)) = t⁻¹ := m1
  have z21 : t ^ (((1 : Nat) : Int) - ((2 : Nat) : Int)) = t⁻¹ := m1
  have z20 : t ^ (((0 : Nat) : Int) - ((2 : Nat) : Int)) = t⁻¹ * t⁻¹ := m2
  rcases hk with rfl | rfl | rfl
  · refine ⟨-1, .neg_one t, ?_⟩
    rw [show List.range 1 = [0] from rfl]
    simp only [List.map_cons, List.map_nil, Dv, rd, D, lap, lessR, z0]
    simp only [List.isEmpty_nil, if_true]
    grind
  · refine ⟨1, .one t, ?_⟩
    rw [show List.range 2 = [0, 1] from rfl]
    simp only [List.map_cons, List.map_nil, Dv, rd, D, lap, lessR, z0, z1, z01, z10]
    simp only [List.isEmpty_nil, if_true]
    have u01 : unit 0 1 = 0 := if_neg (by decide)
    have u10 : unit 1 0 = 0 := if_neg (by decide)
    rw [u01, u10]
    grind
  · refine ⟨-1, .neg_one t, ?_⟩
    rw [show List.range 3 = [0, 1, 2] from rfl]
    simp only [List.map_cons, List.map_nil, Dv, rd, D, lap, lessR, z0, z1, z2, z01, z10, z12, z21, z02, z20]
    simp only [List.isEmpty_nil, if_true]
    have u01 : unit 0 1 = 0 := if_neg (by decide)
    have u10 : unit 1 0 = 0 := if_neg (by decide)
    have u02 : unit 0 2 = 0 := if_neg (by decide)
    have u20 : unit 2 0 = 0 := if_neg (by decide)
    have u12 : unit 1 2 = 0 := if_neg (by decide)
    have u21 : unit 2 1 = 0 := if_neg (by decide)
    rw [u01, u10, u02, u20, u12, u21]
    grind
end Go.Proofs.YtdelekkbkpldjaaDoor.Kn
