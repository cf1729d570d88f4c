/- Plain mathematics of diagrams, joined. -/
import Derived.Test.YtcfpdeeipbekfaaMAllc
/- Closed words, plain: the diagram that Close makes is planar. -/
namespace Go.Proofs.Ytcfpdeeipbekfaa.Kn
set_option linter.unusedVariables false

/-- Crossings of a column; those ahead of a level. -/
def cbC (w : List Int) (c k : Nat) : Nat := (List.range k).countP fun j => decide ((w.getD j 0).natAbs = c)
def mC (w : List Int) (c : Nat) : Nat := cbC w c w.length
theorem cbC_succ (w : List Int) (c k : Nat) : cbC w c (k + 1) = cbC w c k + if (w.getD k 0).natAbs = c then 1 else 0 := by
  unfold cbC
  rw [List.range_succ, List.countP_append, List.countP_cons, List.countP_nil]
  simp
theorem cbC_mono (w : List Int) (c : Nat) {j : Nat} : ∀ {k : Nat}, j ≤ k → cbC w c j ≤ cbC w c k
  | 0, h => by rw [show j = 0 by omega]; exact Nat.le_refl _
  | k + 1, h => by
    by_cases e : j = k + 1
    · rw [e]; exact Nat.le_refl _
    · have := cbC_mono w c (j := j) (k := k) (by omega)
      rw [cbC_succ]; omega
theorem cbC_lt {w : List Int} {k : Nat} (hk : k < w.length) : cbC w (w.getD k 0).natAbs k < mC w (w.getD k 0).natAbs := by
  have h1 := cbC_mono w (w.getD k 0).natAbs (j := k + 1) (k := w.length) hk
  have h2 := cbC_succ w (w.getD k 0).natAbs k
  rw [if_pos rfl] at h2
  unfold mC; omega
theorem mC_pos {w : List Int} {c : Nat} (h : mC w c ≠ 0) : ∃ k, k < w.length ∧ (w.getD k 0).natAbs = c := by
  unfold mC cbC at h
  have : 0 < List.countP (fun j => decide ((w.getD j 0).natAbs = c)) (List.range w.length) := by omega
  rw [List.countP_pos_iff] at this
  obtain ⟨k, hk, e⟩ := this
  exact ⟨k, List.mem_range.1 hk, of_decide_eq_true e⟩
/-- The face to the left of a strand that goes up, and of one that goes down. -/
def cdC (w : List Int) (c x : Nat) : Nat := c * (w.length + 3) + x
def FC (w : List Int) (k p : Nat) : Nat := cdC w p (if mC w p = 0 then 1 else 2 + cbC w p k % mC w p)
def BC (w : List Int) (k p : Nat) : Nat := cdC w (p + 1) (if mC w (p + 1) = 0 then 0 else 2 + cbC w (p + 1) k % mC w (p + 1))
theorem cdC_inj {w : List Int} {c c' x x' : Nat} (hx : x < w.length + 3) (hx' : x' < w.length + 3) (e : cdC w c x = cdC w c' x') : c = c' ∧ x = x' := by
  unfold cdC at e
  have h1 : (c * (w.length + 3) + x) / (w.length + 3) = (c' * (w.length + 3) + x') / (w.length + 3) := by rw [e]
  rw [Nat.mul_comm c, Nat.mul_comm c', Nat.mul_add_div (by omega), Nat.mul_add_div (by omega), Nat.div_eq_of_lt hx, Nat.div_eq_of_lt hx'] at h1
  have : c = c' := by omega
  subst this
  exact ⟨rfl, by omega⟩
theorem FC_on {w : List Int} {k p : Nat} (h : (w.getD k 0).natAbs ≠ p) : FC w (k + 1) p = FC w k p := by
  unfold FC
  rw [cbC_succ, if_neg h]; rfl
theorem BC_on {w : List Int} {k p : Nat} (h : (w.getD k 0).natAbs ≠ p + 1) : BC w (k + 1) p = BC w k p := by
  unfold BC
  rw [cbC_succ, if_neg h]; rfl
theorem FC_round (w : List Int) (p : Nat) : FC w w.length p = FC w 0 p := by
  unfold FC
  by_cases c : mC w p = 0
  · rw [if_pos c, if_pos c]
  · rw [if_neg c, if_neg c]
    show cdC w p (2 + mC w p % mC w p) = cdC w p (2 + 0 % mC w p)
    rw [Nat.mod_self, Nat.zero_mod]
theorem BC_round (w : List Int) (p : Nat) : BC w w.length p = BC w 0 p := by
  unfold BC
  by_cases c : mC w (p + 1) = 0
  · rw [if_pos c, if_pos c]
  · rw [if_neg c, if_neg c]
    show cdC w (p + 1) (2 + mC w (p + 1) % mC w (p + 1)) = cdC w (p + 1) (2 + 0 % mC w (p + 1))
    rw [Nat.mod_self, Nat.zero_mod]
theorem BC_FC {w : List Int} {k p : Nat} (h : mC w (p + 1) ≠ 0) : BC w k p = FC w k (p + 1) := by
  unfold BC FC
  rw [if_neg h, if_neg h]
section
variable {n : Nat} {w : List Int} {A : List Nat} {N : Nat × Nat → Nat}
theorem untch {n : Nat} {w : List Int} (hw : LetsM n w) {k p : Nat} (hk : k < w.length) (h : ¬ Tch w k p) : (w.getD k 0).natAbs ≠ p ∧ (w.getD k 0).natAbs ≠ p + 1 := by
  obtain ⟨h1, _⟩ := hw.iw hk
  constructor
  · intro e; exact h ⟨hk, .inr (by omega)⟩
  · intro e; exact h ⟨hk, .inl (by omega)⟩
theorem FC_next {n : Nat} {w : List Int} (hw : LetsM n w) {k p : Nat} (hk : k ≤ w.length) : FC w (nxT w k p) p = FC w k p :=
  nxT_const (f := fun k => FC w k p) (fun j hj ht => FC_on (untch hw hj ht).1) (FC_round w p) hk
theorem BC_next {n : Nat} {w : List Int} (hw : LetsM n w) {k p : Nat} (hk : k ≤ w.length) : BC w (nxT w k p) p = BC w k p :=
  nxT_const (f := fun k => BC w k p) (fun j hj ht => BC_on (untch hw hj ht).2) (BC_round w p) hk
/-- The face to the left of what comes to a place. -/
def LC (w : List Int) (p : Pl) : Nat := if rP w p < 2 then FC w (lvP w p) (plP w p) else BC w (lvP w p) (plP w p)
theorem Clo.face (h : Clo w A N) (hw : LetsM n w) {p : Pl} (hp : isPl (closX w A) p) : LC w (other (closX w A) p) = LC w (up p) := by
  have hX := h.ok
  have hq := hX.isPl_other hp
  have hc := hX.cm_other hp
  have ha := hX.arc_other hp
  have h1 := h.at_ hp
  have h2 := h.at_ hq
  rw [h1.2, h2.2] at hc
  have e : labC w N (lvP w (other (closX w A) p)) (plP w (other (closX w A) p)) = labC w N (lvP w p) (plP w p) := by
    unfold arcN at ha
    rw [h1.1, h2.1] at ha
    simpa using ha
  obtain ⟨e1, e2⟩ := h.lab_inj (lvP_le hq) (lvP_le hp) ⟨_, plP_tch hq⟩ ⟨_, plP_tch hp⟩ e
  have hF : FC w (lvP w (other (closX w A) p)) (plP w (other (closX w A) p)) = FC w (lvP w p) (plP w p) := by
    rw [← FC_next hw (lvP_le hq), ← FC_next hw (lvP_le hp), e1, e2]
  have hB : BC w (lvP w (other (closX w A) p)) (plP w (other (closX w A) p)) = BC w (lvP w p) (plP w p) := by
    rw [← BC_next hw (lvP_le hq), ← BC_next hw (lvP_le hp), e1, e2]
  have hk : p.1 < w.length := by have := hp.1; rw [closX_len] at this; exact this
  obtain ⟨ea, el⟩ := hw.iw hk
  have hm : mC w (iw w p.1 + 1) ≠ 0 := by
    have := cbC_lt hk
    rw [ea] at this; omega
  have eu : (up p).1 = p.1 := rfl
  have hru : rP w (up p) = (rP w p + 1) % 4 := rP_up
  have hl : LC w (other (closX w A) p) = if rP w p < 2 then BC w (lvP w p) (plP w p) else FC w (lvP w p) (plP w p) := by
    unfold LC
    by_cases c : rP w p < 2
    · rw [decide_eq_true c] at hc
      rw [if_neg (fun k => by rw [decide_eq_true k] at hc; cases hc), if_pos c, hB]
    · rw [decide_eq_false c] at hc
      rw [if_pos (of_decide_eq_true hc), if_neg c, hF]
  rw [hl]
  unfold LC
  have hr := rP_lt w p
  unfold lvP plP
  rw [eu, hru]
  rcases four hr with c | c | c | c
  · rw [c]
    show BC w p.1 (iw w p.1) = FC w p.1 (iw w p.1 + 1)
    exact BC_FC hm
  · rw [c]
    show BC w p.1 (iw w p.1 + 1) = BC w (p.1 + 1) (iw w p.1 + 1)
    exact (BC_on (by omega)).symm
  · rw [c]
    show FC w (p.1 + 1) (iw w p.1 + 1) = BC w (p.1 + 1) (iw w p.1)
    exact (BC_FC hm).symm
  · rw [c]
    show FC w (p.1 + 1) (iw w p.1) = FC w p.1 (iw w p.1)
    exact FC_on (by omega)
def startsC (n : Nat) (w : List Int) : List Nat := (List.range n).filter fun c => decide (mC w c = 0) && decide (mC w (c + 1) ≠ 0)
def endsC (n : Nat) (w : List Int) : List Nat := (List.range n).filter fun c => decide (mC w c ≠ 0) && decide (mC w (c + 1) = 0)
theorem Clo.faces (h : Clo w A N) (hw : LetsM n w) : w.length + (startsC n w).length + (endsC n w).length ≤ (facesL (closX w A)).length := by
  have hX := h.ok
  have b1 : ∀ c k, cbC w c k ≤ k := fun c k => by
    unfold cbC
    have := List.countP_le_length (p := fun j => decide ((w.getD j 0).natAbs = c)) (l := List.range k)
    simpa using this
  let vs := ((List.range w.length).map fun k => cdC w (iw w k + 1) (2 + cbC w (iw w k + 1) k)) ++ ((startsC n w).map (fun c => cdC w c 1) ++ (endsC n w).map fun c => cdC w (c + 1) 0)
  have hl : vs.length = w.length + (startsC n w).length + (endsC n w).length := by
    show (_ ++ (_ ++ _) : List Nat).length = _
    simp [Nat.add_assoc]
  rw [← hl]
  refine hX.faces_ge (L := LC w) (fun p hp => h.face hw hp) ?_ fun v hv => ?_
  · show (_ ++ (_ ++ _) : List Nat).Nodup
    rw [List.nodup_append, List.nodup_append]
    refine ⟨?_, ⟨?_, ?_, ?_⟩, ?_⟩
    · rw [List.Nodup, List.pairwise_map]
      refine List.Pairwise.imp_of_mem (fun {j k} hj hk hjk e => ?_) (List.pairwise_lt_range (n := w.length))
      have hj := List.mem_range.1 hj
      have hk := List.mem_range.1 hk
      have l1 := b1 (iw w j + 1) j
      have l2 := b1 (iw w k + 1) k
      obtain ⟨e1, e2⟩ := cdC_inj (by omega) (by omega) e
      rw [← e1] at e2
      have h3 := cbC_succ w (iw w j + 1) j
      rw [if_pos (hw.iw hj).1] at h3
      have h4 := cbC_mono w (iw w j + 1) (j := j + 1) (k := k) hjk
      omega
    · rw [List.Nodup, List.pairwise_map]
      refine List.Pairwise.imp (fun {a b} hab e => hab ?_) (List.nodup_range.sublist List.filter_sublist)
      exact (cdC_inj (by omega) (by omega) e).1
    · rw [List.Nodup, List.pairwise_map]
      refine List.Pairwise.imp (fun {a b} hab e => hab ?_) (List.nodup_range.sublist List.filter_sublist)
      have := (cdC_inj (by omega) (by omega) e).1
      omega
    · intro a ha b hb e
      obtain ⟨c, _, rfl⟩ := List.mem_map.1 ha
      obtain ⟨d, _, rfl⟩ := List.mem_map.1 hb
      have := (cdC_inj (by omega) (by omega) e).2
      omega
    · intro a ha b hb e
      obtain ⟨k, hk, rfl⟩ := List.mem_map.1 ha
      have hk := List.mem_range.1 hk
      have l2 := b1 (iw w k + 1) k
      rcases List.mem_append.1 hb with hb | hb
      · obtain ⟨d, _, rfl⟩ := List.mem_map.1 hb
        have := (cdC_inj (by omega) (by omega) e).2
        omega
      · obtain ⟨d, _, rfl⟩ := List.mem_map.1 hb
        have := (cdC_inj (by omega) (by omega) e).2
        omega
  · rcases List.mem_append.1 hv with hv | hv
    · obtain ⟨k, hk, rfl⟩ := List.mem_map.1 hv
      have hk := List.mem_range.1 hk
      obtain ⟨k0, _, _⟩ := h.leg hk (r := 1) (by omega)
      refine ⟨_, k0, ?_⟩
      unfold LC lvP plP
      rw [rP_ofR (show 1 < 4 by omega)]
      show FC w k (iw w k + 1) = _
      have h1 := cbC_lt hk
      rw [(hw.iw hk).1] at h1
      unfold FC
      rw [if_neg (by omega), Nat.mod_eq_of_lt h1]
    · rcases List.mem_append.1 hv with hv | hv
      · obtain ⟨c, hc, rfl⟩ := List.mem_map.1 hv
        have hc := (List.mem_filter.1 hc).2
        simp only [Bool.and_eq_true, decide_eq_true_eq] at hc
        obtain ⟨k, hk, e⟩ := mC_pos hc.2
        obtain ⟨k0, _, _⟩ := h.leg hk (r := 0) (by omega)
        refine ⟨_, k0, ?_⟩
        unfold LC lvP plP
        rw [rP_ofR (show 0 < 4 by omega)]
        show FC w k (iw w k) = _
        have : iw w k = c := by have := (hw.iw hk).1; omega
        rw [this]
        unfold FC
        rw [if_pos hc.1]
      · obtain ⟨c, hc, rfl⟩ := List.mem_map.1 hv
        have hc := (List.mem_filter.1 hc).2
        simp only [Bool.and_eq_true, decide_eq_true_eq] at hc
        obtain ⟨k, hk, e⟩ := mC_pos hc.1
        obtain ⟨k0, _, _⟩ := h.leg hk (r := 2) (by omega)
        refine ⟨_, k0, ?_⟩
        unfold LC lvP plP
        rw [rP_ofR (show 2 < 4 by omega)]
        show BC w (k + 1) (iw w k + 1) = _
        have : iw w k + 1 = c := by have := (hw.iw hk).1; omega
        rw [this]
        unfold BC
        rw [if_pos hc.2]
/-- Crossings that touch one place are connected. -/
theorem Clo.near (h : Clo w A N) {p : Nat} : ∀ (d k j : Nat), j ≤ k + d → Tch w k p → Tch w j p → k ≤ j → Ln (closX w A) (k, 0) (j, 0)
  | 0, k, j, hd, hk, hj, hkj => by
    have : k = j := by omega
    subst this
    exact Ln.refl _
  | d + 1, k, j, hd, hk, hj, hkj => by
    by_cases c : k = j
    · subst c; exact Ln.refl _
    · obtain ⟨m1, m2⟩ := nxT_mid (k := k + 1) hj (by omega)
      have hkl := hk.1
      have hm := nxT_is (k := k + 1) ⟨j, hj⟩ (by omega)
      have hX := h.ok
      -- the leg by which the place leaves k, and that by which it comes to the next
      have out : ∃ q, isPl (closX w A) q ∧ q.1 = k ∧ Kn.at_ (closX w A) q = (labC w N (k + 1) p : Nat) ∧ cm (closX w A) q = false := by
        rcases hk.2 with e | e
        · obtain ⟨k0, k1, k2⟩ := h.leg hkl (r := 3) (by omega)
          exact ⟨_, k0, rfl, by rw [k1, e]; rfl, by rw [k2]; rfl⟩
        · obtain ⟨k0, k1, k2⟩ := h.leg hkl (r := 2) (by omega)
          exact ⟨_, k0, rfl, by rw [k1, e]; rfl, by rw [k2]; rfl⟩
      have inn : ∃ q, isPl (closX w A) q ∧ q.1 = nxT w (k + 1) p ∧ Kn.at_ (closX w A) q = (labC w N (nxT w (k + 1) p) p : Nat) ∧ cm (closX w A) q = true := by
        rcases hm.2 with e | e
        · obtain ⟨k0, k1, k2⟩ := h.leg hm.1 (r := 0) (by omega)
          refine ⟨_, k0, rfl, ?_, by rw [k2]; rfl⟩
          rw [k1]
          show ((labC w N (nxT w (k + 1) p) (iw w (nxT w (k + 1) p)) : Nat) : Int) = _
          rw [← e]
        · obtain ⟨k0, k1, k2⟩ := h.leg hm.1 (r := 1) (by omega)
          refine ⟨_, k0, rfl, ?_, by rw [k2]; rfl⟩
          rw [k1]
          show ((labC w N (nxT w (k + 1) p) (iw w (nxT w (k + 1) p) + 1) : Nat) : Int) = _
          rw [← e]
      obtain ⟨q, q0, q1, q2, q3⟩ := out
      obtain ⟨r, r0, r1, r2, r3⟩ := inn
      have eo : Kn.other (closX w A) q = r := hX.other_of q0 r0 (by rw [q3, r3]; rfl) (by
        rw [q2, r2]
        unfold labC
        rw [nxT_touch hm])
      have l1 : Ln (closX w A) (k, 0) q := Ln.round ⟨by rw [closX_len]; exact hkl, by omega⟩ q0.2 q1.symm
      have l2 := hX.ln_other q0
      rw [eo] at l2
      have l3 : Ln (closX w A) r (nxT w (k + 1) p, 0) := Ln.round r0 (by simp) r1
      exact (l1.trans l2).trans (l3.trans (Clo.near h d _ j (by omega) hm hj m2))
theorem Clo.near2 (h : Clo w A N) {p k j : Nat} (hk : Tch w k p) (hj : Tch w j p) : Ln (closX w A) (k, 0) (j, 0) := by
  rcases Nat.le_total k j with c | c
  · exact h.near j k j (by omega) hk hj c
  · exact (h.near k j k (by omega) hj hk c).symm
def firstC (w : List Int) (c : Nat) : Nat := ((List.range w.length).find? fun k => decide ((w.getD k 0).natAbs = c)).getD 0
theorem firstC_is {w : List Int} {c : Nat} (h : mC w c ≠ 0) : firstC w c < w.length ∧ (w.getD (firstC w c) 0).natAbs = c := by
  obtain ⟨k, hk, e⟩ := mC_pos h
  unfold firstC
  cases hf : (List.range w.length).find? fun k => decide ((w.getD k 0).natAbs = c) with
  | none =>
    have := List.find?_eq_none.1 hf k (List.mem_range.2 hk)
    exact absurd (decide_eq_true e) this
  | some j =>
    have h1 := List.find?_some hf
    have h2 := List.mem_of_find?_eq_some hf
    exact ⟨List.mem_range.1 h2, of_decide_eq_true h1⟩
theorem Clo.run (h : Clo w A N) (hw : LetsM n w) : ∀ (c k : Nat), k < w.length → (w.getD k 0).natAbs = c → ∃ e ∈ (startsC n w).map fun c => (firstC w (c + 1), 0), Ln (closX w A) e (k, 0)
  | 0, k, hk, e => by have := (hw.iw hk).1; omega
  | c + 1, k, hk, e => by
    obtain ⟨i1, i2⟩ := hw.iw hk
    have hm : mC w (c + 1) ≠ 0 := by
      have := cbC_lt hk
      rw [e] at this; omega
    have tk : Tch w k c := ⟨hk, .inl (by omega)⟩
    by_cases c0 : mC w c = 0
    · refine ⟨(firstC w (c + 1), 0), List.mem_map.2 ⟨c, List.mem_filter.2 ⟨List.mem_range.2 (by omega), by simp [c0, hm]⟩, rfl⟩, ?_⟩
      obtain ⟨f1, f2⟩ := firstC_is hm
      obtain ⟨j1, _⟩ := hw.iw f1
      exact h.near2 (p := c) ⟨f1, .inl (by omega)⟩ tk
    · obtain ⟨j, hj, ej⟩ := mC_pos c0
      obtain ⟨e', he', hL⟩ := Clo.run h hw c j hj ej
      obtain ⟨j1, _⟩ := hw.iw hj
      exact ⟨e', he', hL.trans (h.near2 (p := c) ⟨hj, .inr (by omega)⟩ tk)⟩
end
end Go.Proofs.Ytcfpdeeipbekfaa.Kn

/- Overpasses of a diagram; those of a closed word's, plain: what the levels' unknowns are merged to. -/
namespace Go.Proofs.Ytcfpdeeipbekfaa.Kn
set_option linter.unusedVariables false

def clsP (X : List Cr) : Nat → Nat → Nat
  | 0 => fun a => a
  | k + 1 => joinF (clsP X k) (arcN X (k, 1)) (arcN X (k, 3))
def prsP (X : List Cr) : Nat → Prs
  | 0 => []
  | k + 1 => (arcN X (k, 1), arcN X (k, 3)) :: prsP X k
/-- The number of a class by its root; how many roots. -/
def ovN (f : Nat → Nat) (r : Nat) : Nat := (List.range (r - 1)).countP fun b => decide (f (b + 1) = b + 1)
def ovM (f : Nat → Nat) (m : Nat) : Nat := (List.range m).countP fun b => decide (f (b + 1) = b + 1)
def overP (X : List Cr) (a : Nat) : Nat := ovN (clsP X X.length) (clsP X X.length a)
def manyP (X : List Cr) : Nat := ovM (clsP X X.length) (nArcs X)
def aTo (X : List Cr) (k : Nat) : Nat := arcN X (k, if (cr X k).p then 2 else 0)
def aIn (X : List Cr) (k : Nat) : Nat := arcN X (k, if (cr X k).p then 0 else 2)
def arow (t : Rat) (X : List Cr) (k : Nat) : Row := fun c =>
  (if overP X (aTo X k) = c then 1 else 0) + -t * (if overP X (aIn X k) = c then 1 else 0) + (t - 1) * (if overP X (arcN X (k, 1)) = c then 1 else 0)
theorem ovM_succ (f : Nat → Nat) (m : Nat) : ovM f (m + 1) = ovM f m + if f (m + 1) = m + 1 then 1 else 0 := by
  unfold ovM
  rw [List.range_succ, List.countP_append, List.countP_cons, List.countP_nil]; simp
theorem ovM_mono (f : Nat → Nat) {j : Nat} : ∀ {k : Nat}, j ≤ k → ovM f j ≤ ovM f k
  | 0, h => by rw [show j = 0 by omega]; exact Nat.le_refl _
  | k + 1, h => by
    by_cases e : j = k + 1
    · rw [e]; exact Nat.le_refl _
    · have := ovM_mono f (j := j) (k := k) (by omega)
      rw [ovM_succ]; omega
theorem ovN_eq (f : Nat → Nat) (r : Nat) : ovN f r = ovM f (r - 1) := rfl
theorem ovN_lt {f : Nat → Nat} {r m : Nat} (h1 : 1 ≤ r) (hr : f r = r) (hm : r ≤ m) : ovN f r < ovM f m := by
  have h := ovM_succ f (r - 1)
  rw [show r - 1 + 1 = r by omega, if_pos hr] at h
  have := ovM_mono f hm
  rw [ovN_eq]; omega
theorem ovN_inj {f : Nat → Nat} {r s : Nat} (h1 : 1 ≤ r) (h2 : 1 ≤ s) (hr : f r = r) (hs : f s = s) (e : ovN f r = ovN f s) : r = s := by
  rcases Nat.lt_trichotomy r s with c | c | c
  · have := ovN_lt h1 hr (show r ≤ s - 1 by omega)
    rw [ovN_eq f s] at e; omega
  · exact c
  · have := ovN_lt h2 hs (show s ≤ r - 1 by omega)
    rw [ovN_eq f r] at e; omega
theorem ovN_onto {f : Nat → Nat} {c : Nat} : ∀ {m : Nat}, c < ovM f m → ∃ r, 1 ≤ r ∧ r ≤ m ∧ f r = r ∧ ovN f r = c
  | 0, h => by simp [ovM] at h
  | m + 1, h => by
    by_cases d : c < ovM f m
    · obtain ⟨r, h1, h2, h3⟩ := ovN_onto d
      exact ⟨r, h1, by omega, h3⟩
    · rw [ovM_succ] at h
      by_cases e : f (m + 1) = m + 1
      · rw [if_pos e] at h
        exact ⟨m + 1, by omega, Nat.le_refl _, e, by rw [ovN_eq]; simp; omega⟩
      · rw [if_neg e] at h; omega
section
variable {X : List Cr}
theorem Ok.cls_rep (h : Ok X) : ∀ k, k ≤ X.length → Rep (clsP X k) (com (fun x => x) (prsP X k))
  | 0, _ => Rep.id
  | k + 1, hk => (h.cls_rep k (by omega)).join (h.isArc (p := (k, 1)) ⟨by show k < _; omega, by show 1 < 4; omega⟩).1 (h.isArc (p := (k, 3)) ⟨by show k < _; omega, by show 3 < 4; omega⟩).1
theorem mem_prsP {e : Nat × Nat} : ∀ {k : Nat}, e ∈ prsP X k ↔ ∃ c, c < k ∧ e = (arcN X (c, 1), arcN X (c, 3))
  | 0 => by simp [prsP]
  | k + 1 => by
    rw [prsP, List.mem_cons, mem_prsP]
    constructor
    · rintro (h | ⟨c, h1, h2⟩)
      · exact ⟨k, by omega, h⟩
      · exact ⟨c, by omega, h2⟩
    · rintro ⟨c, h1, h2⟩
      by_cases e : c = k
      · subst e; exact .inl h2
      · exact .inr ⟨c, by omega, h2⟩
theorem id_pm (N : Nat) : Pm N (fun x => x) := ⟨fun _ h => h, fun _ _ => rfl, fun _ _ h => h⟩
end
section
variable {n : Nat} {w : List Int} {A : List Nat} {N : Nat × Nat → Nat}
theorem Clo.arcs (h : Clo w A N) {k : Nat} (hk : k < w.length) : (∀ r, r < 4 → arcN (closX w A) (ofR w k r) = labC w N (k + if r < 2 then 0 else 1) (iw w k + if r = 1 ∨ r = 2 then 1 else 0)) := fun r hr => by
  unfold arcN
  rw [(h.leg hk hr).2.1]; rfl
theorem closX_p {k : Nat} (hk : k < w.length) : (cr (closX w A) k).p = decide (0 < w.getD k 0) := by
  rw [closX_cr hk]
  unfold mkC
  by_cases c : 0 < w.getD k 0
  · rw [if_pos c, decide_eq_true c]
  · rw [if_neg c, decide_eq_false c]
/-- The levels' number of a row's unknowns. -/
def labV (n : Nat) (w : List Int) (N : Nat × Nat → Nat) (v : Nat) : Nat := labC w N (v / n) (v % n)
theorem labV_lv {k p : Nat} (hp : p < n) : labV n w N (lv n k p) = labC w N k p := by
  unfold labV
  obtain ⟨e1, e2⟩ := lv_div (k := k) hp
  rw [e1, e2]
theorem ofR_eq {k r s : Nat} (e : (r + if 0 < w.getD k 0 then 3 else 0) % 4 = s) : ofR w k r = (k, s) := by unfold ofR; rw [e]
theorem Clo.unk (h : Clo w A N) (hw : LetsM n w) {k : Nat} (hk : k < w.length) :
    labV n w N (toV n w k) = aTo (closX w A) k ∧ labV n w N (inV n w k) = aIn (closX w A) k ∧ labV n w N (ovV n w k) = arcN (closX w A) (k, 1) := by
  obtain ⟨i1, i2⟩ := hw.iw hk
  have hiw : (w.getD k 0).natAbs - 1 = iw w k := rfl
  have ha := h.arcs hk
  have a0 := ha 0 (by omega)
  have a1 := ha 1 (by omega)
  have a2 := ha 2 (by omega)
  have a3 := ha 3 (by omega)
  unfold aTo aIn toV inV ovV
  rw [closX_p hk, hiw]
  by_cases c : 0 < w.getD k 0
  · simp only [if_pos c, decide_eq_true c, if_true]
    rw [ofR_eq (s := 3) (by rw [if_pos c])] at a0
    rw [ofR_eq (s := 0) (by rw [if_pos c])] at a1
    rw [ofR_eq (s := 1) (by rw [if_pos c])] at a2
    rw [ofR_eq (s := 2) (by rw [if_pos c])] at a3
    rw [labV_lv (by omega), labV_lv (by omega), labV_lv (by omega), a1, a2, a3]
    exact ⟨rfl, rfl, rfl⟩
  · simp only [if_neg c, decide_eq_false c, if_false, Bool.false_eq_true]
    rw [ofR_eq (s := 0) (by rw [if_neg c])] at a0
    rw [ofR_eq (s := 1) (by rw [if_neg c])] at a1
    rw [ofR_eq (s := 2) (by rw [if_neg c])] at a2
    rw [ofR_eq (s := 3) (by rw [if_neg c])] at a3
    rw [labV_lv (by omega), labV_lv (by omega), labV_lv (by omega), a0, a1, a2]
    exact ⟨rfl, rfl, rfl⟩
/-- THE DIAGRAM'S ROWS ARE THE MERGED ONES. -/
theorem Clo.row (h : Clo w A N) (hw : LetsM n w) (t : Rat) {k : Nat} (hk : k < w.length) : prow t n w (fun v => overP (closX w A) (labV n w N v)) k = arow t (closX w A) k := by
  obtain ⟨e1, e2, e3⟩ := h.unk hw hk
  unfold prow arow
  simp only [e1, e2, e3]
theorem EE_untch (hw : LetsM n w) {k p : Nat} (hk : k < w.length) (hp : p < n) (ht : ¬ Tch w k p) : Tie (EE n w) (lv n (k + 1) p) (lv n k p) := by
  refine .pair ?_
  unfold EE
  refine List.mem_append_left _ (List.mem_flatMap.2 ⟨k, List.mem_range.2 hk, List.mem_map.2 ⟨p, ?_, ?_⟩⟩)
  · refine List.nodup_range.mem_erase_iff.2 ⟨fun e => ht ⟨hk, ?_⟩, List.mem_range.2 hp⟩
    have := (hw.iw hk).1
    unfold lowAt at e
    split at e <;> omega
  · have : sameAs (w.getD k 0) p = p := by
      have h1 := (hw.iw hk).1
      have h2 : ¬ (p = iw w k ∨ p = iw w k + 1) := fun e => ht ⟨hk, e⟩
      unfold sameAs
      split
      · rw [if_neg (by omega)]
      · rw [if_neg (by omega)]
    rw [this]
theorem EE_round {p : Nat} (hp : p < n) : Tie (EE n w) (lv n w.length p) (lv n 0 p) :=
  .pair (List.mem_append_right _ (List.mem_map.2 ⟨p, List.mem_range.2 hp, rfl⟩))
theorem Tie_up (hw : LetsM n w) {p : Nat} (hp : p < n) : ∀ d k, k + d = w.length → Tie (EE n w) (lv n (upT w p d k) p) (lv n k p)
  | 0, k, _ => .refl _
  | d + 1, k, hk => by
    unfold upT
    split
    · exact .refl _
    · rename_i hn
      exact (Tie_up hw hp d (k + 1) (by omega)).trans (EE_untch hw (by omega) hp hn)
theorem Tie_nx (hw : LetsM n w) {p k : Nat} (hp : p < n) (hk : k ≤ w.length) : Tie (EE n w) (lv n (nxT w k p) p) (lv n k p) := by
  have h1 := Tie_up hw hp (w.length - k) k (by omega)
  unfold nxT
  split
  · exact h1
  · have h2 := upT_le w p (w.length - k) k
    rw [show upT w p (w.length - k) k = w.length by omega] at h1
    exact ((Tie_up hw hp w.length 0 (by omega)).trans (EE_round hp).symm).trans h1
/-- One number, one thing. -/
theorem Clo.tie (h : Clo w A N) (hw : LetsM n w) (hf : ∀ p, p < n → ¬ Free w p) {u v : Nat} (hu : u ∈ VV n w) (hv : v ∈ VV n w) (e : labV n w N u = labV n w N v) : Tie (EE n w) u v := by
  have dec : ∀ u, u ∈ VV n w → ∃ k p, k ≤ w.length ∧ p < n ∧ u = lv n k p := fun u hu => by
    have hu := List.mem_range.1 hu
    have hn : 0 < n := by
      rcases Nat.eq_zero_or_pos n with c | c
      · subst c; simp at hu
      · exact c
    refine ⟨u / n, u % n, ?_, Nat.mod_lt _ hn, ?_⟩
    · have := Nat.div_lt_of_lt_mul (show u < n * (w.length + 1) by rw [Nat.mul_comm]; exact hu)
      omega
    · show u = u / n * n + u % n
      have := Nat.div_add_mod u n
      rw [Nat.mul_comm] at this; omega
  obtain ⟨k, p, hk, hp, rfl⟩ := dec u hu
  obtain ⟨k', p', hk', hp', rfl⟩ := dec v hv
  rw [labV_lv hp, labV_lv hp'] at e
  have ex : ∀ p, p < n → ∃ j, Tch w j p := fun p hp => Classical.byContradiction fun c => hf p hp fun j hj => c ⟨j, hj⟩
  obtain ⟨e1, e2⟩ := h.lab_inj hk hk' (ex p hp) (ex p' hp') e
  subst e2
  have t1 := Tie_nx hw hp hk
  have t2 := Tie_nx hw hp hk'
  rw [← e1] at t2
  exact t1.symm.trans t2
end
end Go.Proofs.Ytcfpdeeipbekfaa.Kn

/- What Alexander's rows of a closed word's diagram tell, plain: what the word's table tells. -/
namespace Go.Proofs.Ytcfpdeeipbekfaa.Kn
set_option linter.unusedVariables false

def alexV (t : Rat) (X : List Cr) (L : Nat) : Rat :=
  if X.length = 0 then (if L = 1 then 1 else 0)
  else if 0 < L then 0
  else if manyP X = X.length then Dv ((List.range (X.length - 1)).map (arow t X)) (List.range (X.length - 1))
  else if manyP X = X.length + 1 then Dv ((List.range X.length).map (arow t X)) (List.range X.length)
  else 0
end Go.Proofs.Ytcfpdeeipbekfaa.Kn

/- Closed tangles, plain: the overpasses are what the levels' unknowns are merged to. -/
namespace Go.Proofs.Ytcfpdeeipbekfaa.Kn
set_option linter.unusedVariables false

/-- Columns that are told to be tied by numbers: nothing. -/
theorem D_ker (rs : List Row) (v0 : Nat) (vs : List Nat) (x : Nat → Rat) (h0 : x v0 ≠ 0) (h : ∀ r ∈ rs, x v0 * r v0 + (vs.map fun v => x v * r v).sum = 0) : Dv rs (v0 :: vs) = 0 := by
  have key : ∀ (l : List Nat) (c' : Row → Rat), (∀ v ∈ l, v ∈ vs) → (∀ r ∈ rs, c' r = -(l.map fun v => x v * r v).sum) → D rs (c' :: rd vs) = 0 := by
    intro l
    induction l with
    | nil => intro c' _ hc; exact D_zero_col c' rs (rd vs) fun r hr => by rw [hc r hr]; simp
    | cons v l ih =>
      intro c' hl hc
      have h1 := ml_D rs [] (fun r => -(l.map fun v => x v * r v).sum) (fun r : Row => r v) c' (rd vs) 1 (-x v) fun r hr => by rw [hc r hr]; simp only [List.map_cons, List.sum_cons]; grind
      have h2 := ih (fun r => -(l.map fun v => x v * r v).sum) (fun y hy => hl y (List.mem_cons_of_mem _ hy)) fun r _ => rfl
      have h3 := D_twin rs (fun r : Row => r v) [] (rd vs) (List.mem_map.2 ⟨v, hl v List.mem_cons_self, rfl⟩)
      simp only [List.nil_append] at h1 h3
      rw [h1, h2, h3]; grind
  have h1 := key vs (fun r => x v0 * r v0) (fun v hv => hv) fun r hr => by have := h r hr; grind
  have h2 := ml_D rs [] (fun r : Row => x v0 * r v0) (fun r : Row => r v0) (fun r : Row => r v0) (rd vs) (1 / x v0) 0 fun r hr => by grind
  simp only [List.nil_append] at h2
  show D rs ((fun r : Row => r v0) :: rd vs) = 0
  rw [h2, h1]; grind
theorem Dv_ker {rs : List Row} {vs : List Nat} {x : Nat → Rat} {v0 : Nat} (hv : v0 ∈ vs) (h0 : x v0 ≠ 0) (h : ∀ r ∈ rs, (vs.map fun v => x v * r v).sum = 0) : Dv rs vs = 0 := by
  obtain ⟨e, he, k⟩ := Dv_cols (List.perm_cons_erase hv)
  rw [k, D_ker rs v0 (vs.erase v0) x h0 fun r hr => ?_]
  · grind
  · have := sum_perm (List.perm_cons_erase hv) fun v => x v * r v
    rw [List.map_cons, List.sum_cons, h r hr] at this
    exact this.symm
section
variable {α : Type} {bl ab : Nat → Bool} {n : Nat} {E : Nat → Nat → α} {V : Pl → α}
theorem Lb.ind (h : Lb bl n E V) (P : α → Prop) (h0 : P (E 0 0)) (h3 : P (E 0 3)) (hV : ∀ p : Pl, p.1 < n → p.2 < 4 → P (V p)) : ∀ k, k ≤ n → ∀ j, j < 4 → P (E k j)
  | 0, _, j, hj => by
    rcases four' hj with rfl | rfl | rfl | rfl
    · exact h0
    · rw [← h.top0]; exact h0
    · rw [h.bot0]; exact h3
    · exact h3
  | k + 1, hk, j, hj => by
    by_cases c3 : j = 3
    · rw [c3, ← h.out1 k (by omega)]; exact hV _ (by show k < n; omega) (by show 3 < 4; omega)
    · by_cases co : j = old0 (bl k)
      · rw [co, ← h.out0 k (by omega)]; exact hV _ (by show k < n; omega) (by show old0 (bl k) < 4; rcases old_tied (bl k) with ⟨o, _⟩ | ⟨o, _⟩ <;> rw [o] <;> decide)
      · rw [h.keep k j (by omega) hj co c3]
        exact Lb.ind h P h0 h3 hV k (by omega) j hj
theorem Lb.top (h : Lb bl n E V) : ∀ k, k ≤ n → E k 0 = E 0 0
  | 0, _ => rfl
  | k + 1, hk => by
    rw [h.keep k 0 (by omega) (by omega) (by rcases old_tied (bl k) with ⟨o, _⟩ | ⟨o, _⟩ <;> rw [o] <;> decide) (by omega)]
    exact Lb.top h k (by omega)
/-- Labels of the corners tell those of the ends, but for the first two. -/
theorem Lb.same {E' : Nat → Nat → α} (h : Lb bl n E V) (h' : Lb bl n E' V) (e0 : E 0 0 = E' 0 0) (e3 : E 0 3 = E' 0 3) : ∀ k, k ≤ n → ∀ j, j < 4 → E k j = E' k j
  | 0, _, j, hj => by
    rcases four' hj with rfl | rfl | rfl | rfl
    · exact e0
    · rw [← h.top0, ← h'.top0]; exact e0
    · rw [h.bot0, h'.bot0]; exact e3
    · exact e3
  | k + 1, hk, j, hj => by
    by_cases c3 : j = 3
    · rw [c3, ← h.out1 k (by omega), ← h'.out1 k (by omega)]
    · by_cases co : j = old0 (bl k)
      · rw [co, ← h.out0 k (by omega), ← h'.out0 k (by omega)]
      · rw [h.keep k j (by omega) hj co c3, h'.keep k j (by omega) hj co c3]
        exact Lb.same h h' e0 e3 k (by omega) j hj
/-- What is known of a strand above or below, by the ends. -/
theorem Lb.cross (h : Lb bl n E V) {k : Nat} (hk : k < n) :
    ((V (cnr ab (4 * k + 1)) = E k (oS bl ab k) ∧ V (cnr ab (4 * k + 3)) = E (k + 1) (oU bl ab k)) ∨ (V (cnr ab (4 * k + 3)) = E k (oS bl ab k) ∧ V (cnr ab (4 * k + 1)) = E (k + 1) (oU bl ab k))) ∧
    ((V (cnr ab (4 * k)) = E k (oU bl ab k) ∧ V (cnr ab (4 * k + 2)) = E (k + 1) (oS bl ab k)) ∨ (V (cnr ab (4 * k + 2)) = E k (oU bl ab k) ∧ V (cnr ab (4 * k)) = E (k + 1) (oS bl ab k))) := by
  have i0 := h.in0 k hk
  have i1 := h.in1 k hk
  have o0 := h.out0 k hk
  have o1 := h.out1 k hk
  have d : ∀ s, s < 4 → cnr ab (4 * k + s) = (k, pcn (ab k) s) := fun s hs => by
    unfold cnr
    rw [show (4 * k + s) / 4 = k by omega, show (4 * k + s) % 4 = s by omega]
  have d0 := d 0 (by omega)
  rw [show 4 * k + 0 = 4 * k from rfl] at d0
  rw [d0, d 1 (by omega), d 2 (by omega), d 3 (by omega)]
  rcases slots bl ab k with ⟨h1, h2, h3, h4, h5⟩ | ⟨h1, h2, h3, h4, h5⟩ | ⟨h1, h2, h3, h4, h5⟩ | ⟨h1, h2, h3, h4, h5⟩ <;> rw [h4, h5, h2] <;> rw [h1] at i0 i1 o0 <;> simp only [pcn, old0, tied1] at * <;> simp at * <;> grind
end
end Go.Proofs.Ytcfpdeeipbekfaa.Kn

/- Closed tangles, plain: the levels' unknowns lead to the overpasses. -/
namespace Go.Proofs.Ytcfpdeeipbekfaa.Kn
set_option linter.unusedVariables false

def VW (W : Wl) (ab : Nat → Bool) (p : Pl) : Nat := W.arcs.getD (nod ab p) 0
def labT (bl ab : Nat → Bool) (n : Nat) (W : Wl) (k j : Nat) : Nat := lftE bl ab n (VW W ab) k j
def qT (bl ab : Nat → Bool) (n : Nat) (W : Wl) (v : Nat) : Nat := overP (diaX n W) (labT bl ab n W (v / 4) (v % 4))
section
variable {α : Type} {bl ab : Nat → Bool} {n : Nat} {W : Wl} {S : List Nat}
theorem gA_tie (hn : 0 < n) (h : Dg n (TN ab (FN bl ab n)) W S) {V : Pl → α} (hV : ∀ p q, FN bl ab n p = some q → V p = V q) {u : Nat} (hu : u < 4 * n) : gA ab S V (W.arcs.getD u 0) = V (cnr ab u) := by
  have hC := close_ct bl ab hn
  have key : ∀ u, u ∈ S → gA ab S V (W.arcs.getD u 0) = V (cnr ab u) := fun u hu => by
    obtain ⟨j, hj, e⟩ := List.getElem_of_mem hu
    have hc := h.civ.cell j hj
    rw [e] at hc
    unfold gA
    rw [hc, Nat.add_sub_cancel, List.getD_eq_getElem?_getD, List.getElem?_eq_getElem hj, e]; rfl
  by_cases c : u ∈ S
  · exact key u c
  · obtain ⟨t1, t2⟩ := h.tie hC.mch hu
    rw [← t2, key _ (t1.2 c)]
    obtain ⟨k1, _⟩ := hC.at_ hu
    exact (hV _ _ k1).symm
theorem VW_cnr (W : Wl) (ab : Nat → Bool) (u : Nat) : VW W ab (cnr ab u) = W.arcs.getD u 0 := by unfold VW; rw [nod_cnr]
theorem VW_tie (hn : 0 < n) (h : Dg n (TN ab (FN bl ab n)) W S) : ∀ p q, FN bl ab n p = some q → VW W ab p = VW W ab q := fun p q e => by
  have hC := close_ct bl ab hn
  obtain ⟨⟨p1, p2⟩, ⟨q1, q2⟩, _, _⟩ := hC.prt p q e
  have hu := nod_lt ab p1 p2
  have e2 : TN ab (FN bl ab n) (nod ab p) = nod ab q := TN_is ab (by rw [cnr_nod ab p2]; exact e)
  have := (h.tie hC.mch hu).2
  rw [e2] at this
  exact this.symm
theorem VW_rng (h : Dg n (TN ab (FN bl ab n)) W S) {p : Pl} (h1 : p.1 < n) (h2 : p.2 < 4) : 1 ≤ VW W ab p ∧ VW W ab p ≤ 2 * n := h.val (nod_lt ab h1 h2)
theorem labT_lb (hn : 0 < n) (h : Dg n (TN ab (FN bl ab n)) W S) : Lb bl n (labT bl ab n W) (VW W ab) ∧ labT bl ab n W n 0 = labT bl ab n W n 1 ∧ labT bl ab n W n 2 = labT bl ab n W n 3 := lift hn (VW_tie hn h)
theorem labT_ind (hn : 0 < n) (h : Dg n (TN ab (FN bl ab n)) W S) (ht : (eN bl ab n 0).c = true) (P : Nat → Prop) (hP : ∀ p : Pl, p.1 < n → p.2 < 4 → P (VW W ab p)) : ∀ k, k ≤ n → ∀ j, j < 4 → P (labT bl ab n W k j) := by
  have hl := (labT_lb hn h).1
  have hC := close_ct bl ab hn
  refine hl.ind P ?_ ?_ hP
  · have e : labT bl ab n W 0 0 = VW W ab (eN bl ab n 0).p := by
      show lftE bl ab n (VW W ab) 0 0 = _
      unfold lftE
      rw [if_neg (by show ¬ false = true; decide), if_pos (by omega), if_pos ht]
    rw [e]
    obtain ⟨p1, p2⟩ := (hC.prt _ _ (hC.top ht)).2.1
    exact hP _ p1 p2
  · rw [← hl.in1 0 hn]
    exact hP _ hn (by show tied1 (bl 0) < 4; rcases old_tied (bl 0) with ⟨_, o⟩ | ⟨_, o⟩ <;> rw [o] <;> decide)
theorem labT_rng (hn : 0 < n) (h : Dg n (TN ab (FN bl ab n)) W S) (ht : (eN bl ab n 0).c = true) {k j : Nat} (hk : k ≤ n) (hj : j < 4) : 1 ≤ labT bl ab n W k j ∧ labT bl ab n W k j ≤ 2 * n :=
  labT_ind hn h ht (fun x => 1 ≤ x ∧ x ≤ 2 * n) (fun p h1 h2 => VW_rng h h1 h2) k hk j hj
/-- The four sides of a crossing, by its places. -/
theorem Dg.sides (h : Dg n (TN ab (FN bl ab n)) W S) {c : Nat} (hc : c < n) :
    (arcN (diaX n W) (c, 0) = W.arcs.getD (4 * c) 0 ∧ arcN (diaX n W) (c, 2) = W.arcs.getD (4 * c + 2) 0 ∧ arcN (diaX n W) (c, 1) = W.arcs.getD (4 * c + 1) 0 ∧ arcN (diaX n W) (c, 3) = W.arcs.getD (4 * c + 3) 0) ∨
    (arcN (diaX n W) (c, 0) = W.arcs.getD (4 * c + 2) 0 ∧ arcN (diaX n W) (c, 2) = W.arcs.getD (4 * c) 0 ∧ arcN (diaX n W) (c, 1) = W.arcs.getD (4 * c + 3) 0 ∧ arcN (diaX n W) (c, 3) = W.arcs.getD (4 * c + 1) 0) := by
  have ha : ∀ s, s < 4 → arcN (diaX n W) (c, s) = W.arcs.getD (c * 4 + (s + i0 W c) % 4) 0 := fun s hs => by
    unfold arcN
    rw [(h.at_ (p := (c, s)) ⟨by rw [diaX_len]; exact hc, hs⟩).1]; rfl
  obtain ⟨k1, k2, _⟩ := h.i0_is hc
  have k : i0 W c = 0 ∨ i0 W c = 2 := by omega
  rw [ha 0 (by omega), ha 1 (by omega), ha 2 (by omega), ha 3 (by omega), Nat.mul_comm c 4]
  rcases k with k | k <;> rw [k]
  · exact .inl ⟨rfl, rfl, rfl, rfl⟩
  · exact .inr ⟨rfl, rfl, rfl, rfl⟩
theorem lv4_div {k j : Nat} (hj : j < 4) : lv4 k j / 4 = k ∧ lv4 k j % 4 = j := by unfold lv4; omega
theorem qT_lv {k j : Nat} (hj : j < 4) : qT bl ab n W (lv4 k j) = overP (diaX n W) (labT bl ab n W k j) := by
  unfold qT
  rw [(lv4_div hj).1, (lv4_div hj).2]
theorem EB_in {k : Nat} (hk : k < n) {e : Nat × Nat} (he : e ∈ EBt bl ab k) : e ∈ ET bl ab n :=
  List.mem_append_left _ (List.mem_append_right _ (List.mem_flatMap.2 ⟨k, List.mem_range.2 hk, he⟩))
/-- Unknowns by what they are tied to. -/
def ctE (bl ab : Nat → Bool) (n k j : Nat) : Nat → Prop := fun v => Tie (ET bl ab n) (lv4 k j) v
theorem ctE_eq {k j k' j' : Nat} (h : Tie (ET bl ab n) (lv4 k j) (lv4 k' j')) : ctE bl ab n k j = ctE bl ab n k' j' :=
  funext fun v => propext ⟨fun t => h.symm.trans t, fun t => h.trans t⟩
theorem ctE_lb (hn : 0 < n) : Lb bl n (ctE bl ab n) (vOf bl (ctE bl ab n)) ∧ (∀ p q, FN bl ab n p = some q → vOf bl (ctE bl ab n) p = vOf bl (ctE bl ab n) q) := by
  have e0 : ∀ e ∈ E0t, e ∈ ET bl ab n := fun e he => List.mem_append_left _ (List.mem_append_left _ he)
  have eC : ∀ e ∈ ECt n, e ∈ ET bl ab n := fun e he => List.mem_append_right _ he
  have hl : Lb bl n (ctE bl ab n) (vOf bl (ctE bl ab n)) := by
    refine Lb.of (ctE_eq (.symm (.pair (e0 _ (by simp [E0t]))))) (ctE_eq (.symm (.pair (e0 _ (by simp [E0t]))))) fun k j hk hj ho h3 => ctE_eq (.pair ?_)
    refine EB_in hk ?_
    unfold EBt
    rcases slots bl ab k with ⟨h1, h2, c3, h4, h5⟩ | ⟨h1, h2, c3, h4, h5⟩ | ⟨h1, h2, c3, h4, h5⟩ | ⟨h1, h2, c3, h4, h5⟩ <;> rw [c3] <;> rw [h1] at ho <;> simp only [old0] at ho <;> rcases four' hj with rfl | rfl | rfl | rfl <;> simp at *
  exact ⟨hl, hl.closed hn (fun _ => ctE_eq (.symm (.pair (eC _ (by simp [ECt]))))) (ctE_eq (.symm (.pair (eC _ (by simp [ECt])))))⟩
theorem labT_tie (hn : 0 < n) (h : Dg n (TN ab (FN bl ab n)) W S) (ht : (eN bl ab n 0).c = true) {k j : Nat} (hk : k ≤ n) (hj : j < 4) : gA ab S (vOf bl (ctE bl ab n)) (labT bl ab n W k j) = ctE bl ab n k j := by
  obtain ⟨h1, h2⟩ := ctE_lb (bl := bl) (ab := ab) hn
  have hl := (labT_lb hn h).1
  have hC := close_ct bl ab hn
  have hg : ∀ p : Pl, p.1 < n → p.2 < 4 → gA ab S (vOf bl (ctE bl ab n)) (VW W ab p) = vOf bl (ctE bl ab n) p := fun p p1 p2 => by
    unfold VW
    rw [gA_tie hn h h2 (nod_lt ab p1 p2), cnr_nod ab p2]
  have hot := fun k => old_tied (bl k)
  have hl' : Lb bl n (fun k j => gA ab S (vOf bl (ctE bl ab n)) (labT bl ab n W k j)) (vOf bl (ctE bl ab n)) := by
    refine ⟨by rw [hl.top0], by rw [hl.bot0], fun k j hk hj ho h3 => by simp only [hl.keep k j hk hj ho h3], fun k hk => ?_, fun k hk => ?_, fun k hk => ?_, fun k hk => ?_⟩
    · rw [← hl.in0 k hk, hg _ hk (by show 0 < 4; omega)]
    · rw [← hl.in1 k hk, hg _ hk (by show tied1 (bl k) < 4; rcases hot k with ⟨_, o⟩ | ⟨_, o⟩ <;> rw [o] <;> decide)]
    · rw [← hl.out0 k hk, hg _ hk (by show old0 (bl k) < 4; rcases hot k with ⟨o, _⟩ | ⟨o, _⟩ <;> rw [o] <;> decide)]
    · rw [← hl.out1 k hk, hg _ hk (by show 3 < 4; omega)]
  refine hl'.same h1 ?_ ?_ k hk j hj
  · have e : labT bl ab n W 0 0 = VW W ab (eN bl ab n 0).p := by
      show lftE bl ab n (VW W ab) 0 0 = _
      unfold lftE
      rw [if_neg (by show ¬ false = true; decide), if_pos (by omega), if_pos ht]
    obtain ⟨p1, p2⟩ := (hC.prt _ _ (hC.top ht)).2.1
    show gA ab S (vOf bl (ctE bl ab n)) (labT bl ab n W 0 0) = _
    rw [e, hg _ p1 p2, (h1.ties (ab := ab)).2.1 0 (by omega) ht, h1.top n (Nat.le_refl n)]
  · show gA ab S (vOf bl (ctE bl ab n)) (labT bl ab n W 0 3) = _
    rw [← hl.in1 0 hn, hg _ hn (by show tied1 (bl 0) < 4; rcases hot 0 with ⟨_, o⟩ | ⟨_, o⟩ <;> rw [o] <;> decide), h1.in1 0 hn]
/-- THE OVERPASSES OF A CLOSED TANGLE. -/
theorem tang_quo (hn : 0 < n) (h : Dg n (TN ab (FN bl ab n)) W S) (ht : (eN bl ab n 0).c = true) : Quo (VT n) (ET bl ab n) (qT bl ab n W) (List.range (manyP (diaX n W))) ∧
    ∀ c, c < n → overP (diaX n W) (W.arcs.getD (4 * c + 1) 0) = overP (diaX n W) (W.arcs.getD (4 * c + 3) 0) := by
  have hC := close_ct bl ab hn
  have hX := h.ok hC.mch
  have hlen : (diaX n W).length = n := diaX_len n W
  have hR := hX.cls_rep (diaX n W).length (Nat.le_refl _)
  have hna : nArcs (diaX n W) = 2 * n := by unfold nArcs; rw [hlen]
  obtain ⟨h1, h2⟩ := ctE_lb (bl := bl) (ab := ab) hn
  have hl := (labT_lb hn h).1
  have root : ∀ a, 1 ≤ a → a ≤ 2 * n → 1 ≤ clsP (diaX n W) (diaX n W).length a ∧ clsP (diaX n W) (diaX n W).length a ≤ 2 * n := fun a h1 h2 => by
    have := hR.pos a h1
    have := hR.le a
    omega
  have over_eq : ∀ a b, 1 ≤ a → 1 ≤ b → overP (diaX n W) a = overP (diaX n W) b → com (fun x => x) (prsP (diaX n W) (diaX n W).length) a b := fun a b ha hb e => by
    rw [← hR.iff]
    exact ovN_inj (hR.pos a ha) (hR.pos b hb) (hR.idem a) (hR.idem b) e
  have over_of : ∀ a b, com (fun x => x) (prsP (diaX n W) (diaX n W).length) a b → overP (diaX n W) a = overP (diaX n W) b := fun a b k => by
    unfold overP
    rw [(hR.iff a b).2 k]
  have pair : ∀ {c}, c < n → overP (diaX n W) (arcN (diaX n W) (c, 1)) = overP (diaX n W) (arcN (diaX n W) (c, 3)) := fun {c} hc =>
    over_of _ _ (com_pair (id_pm 0) (e := (arcN (diaX n W) (c, 1), arcN (diaX n W) (c, 3))) (mem_prsP.2 ⟨c, by rw [hlen]; exact hc, rfl⟩))
  have pairA : ∀ c, c < n → overP (diaX n W) (W.arcs.getD (4 * c + 1) 0) = overP (diaX n W) (W.arcs.getD (4 * c + 3) 0) := fun c hc => by
    have := pair hc
    rcases h.sides hc with ⟨_, _, s1, s3⟩ | ⟨_, _, s1, s3⟩ <;> rw [s1, s3] at this
    · exact this
    · exact this.symm
  have cross : ∀ c, c < n → overP (diaX n W) (labT bl ab n W (c + 1) (oU bl ab c)) = overP (diaX n W) (labT bl ab n W c (oS bl ab c)) := fun c hc => by
    have k := (hl.cross (ab := ab) hc).1
    rw [VW_cnr, VW_cnr] at k
    have := pairA c hc
    rcases k with ⟨k1, k2⟩ | ⟨k1, k2⟩ <;> rw [← k1, ← k2]
    · exact this.symm
    · exact this
  -- what is one overpass is tied
  have hg : ∀ a b, com (fun x => x) (prsP (diaX n W) (diaX n W).length) a b → gA ab S (vOf bl (ctE bl ab n)) a = gA ab S (vOf bl (ctE bl ab n)) b := fun a b k => by
    refine com_least (R := fun a b => gA ab S (vOf bl (ctE bl ab n)) a = gA ab S (vOf bl (ctE bl ab n)) b) ⟨fun _ => rfl, fun e => e.symm, fun e e' => e.trans e'⟩ (fun _ => rfl) (fun e he => ?_) k
    obtain ⟨c, hc, rfl⟩ := mem_prsP.1 he
    rw [hlen] at hc
    have ov : ctE bl ab n (c + 1) (oU bl ab c) = ctE bl ab n c (oS bl ab c) := ctE_eq (.pair (EB_in hc (by unfold EBt; simp)))
    have k := (h1.cross (ab := ab) hc).1
    have key : gA ab S (vOf bl (ctE bl ab n)) (W.arcs.getD (4 * c + 1) 0) = gA ab S (vOf bl (ctE bl ab n)) (W.arcs.getD (4 * c + 3) 0) := by
      rw [gA_tie hn h h2 (by omega), gA_tie hn h h2 (by omega)]
      rcases k with ⟨k1, k2⟩ | ⟨k1, k2⟩ <;> rw [k1, k2, ov]
    rcases h.sides hc with ⟨_, _, s1, s3⟩ | ⟨_, _, s1, s3⟩
    · show gA ab S _ (arcN (diaX n W) (c, 1)) = gA ab S _ (arcN (diaX n W) (c, 3))
      rw [s1, s3]; exact key
    · show gA ab S _ (arcN (diaX n W) (c, 1)) = gA ab S _ (arcN (diaX n W) (c, 3))
      rw [s1, s3]; exact key.symm
  have dec : ∀ v, v ∈ VT n → ∃ k j, k ≤ n ∧ j < 4 ∧ v = lv4 k j := fun v hv => by
    have := VT_mem.1 hv
    exact ⟨v / 4, v % 4, by omega, by omega, by show v = 4 * (v / 4) + v % 4; omega⟩
  have mem : ∀ {k j}, k ≤ n → j < 4 → lv4 k j ∈ VT n := fun {k j} hk hj => VT_mem.2 (by show 4 * k + j < _; omega)
  have sl : ∀ k, un2 (bl k) < 4 ∧ oU bl ab k < 4 ∧ oS bl ab k < 4 := fun k => by
    have := sl4 bl ab k
    exact ⟨this.1, this.2.1, this.2.2.1⟩
  have un_keep : ∀ k, un2 (bl k) ≠ old0 (bl k) ∧ un2 (bl k) ≠ 3 ∧ 0 ≠ old0 (bl k) := fun k => by
    unfold un2 old0; cases bl k <;> simp
  have edge : ∀ e ∈ ET bl ab n, ∃ k j k' j', k ≤ n ∧ j < 4 ∧ k' ≤ n ∧ j' < 4 ∧ e = (lv4 k j, lv4 k' j') ∧ overP (diaX n W) (labT bl ab n W k j) = overP (diaX n W) (labT bl ab n W k' j') := fun e he => by
    obtain ⟨lb, c1, c2⟩ := labT_lb hn h
    unfold ET at he
    rcases List.mem_append.1 he with he | he
    · rcases List.mem_append.1 he with he | he
      · simp only [E0t, List.mem_cons, List.not_mem_nil, or_false] at he
        rcases he with rfl | rfl
        · exact ⟨0, 1, 0, 0, by omega, by omega, by omega, by omega, rfl, by rw [lb.top0]⟩
        · exact ⟨0, 3, 0, 2, by omega, by omega, by omega, by omega, rfl, by rw [lb.bot0]⟩
      · obtain ⟨k, hk, he⟩ := List.mem_flatMap.1 he
        have hk := List.mem_range.1 hk
        simp only [EBt, List.mem_cons, List.not_mem_nil, or_false] at he
        obtain ⟨s1, s2, s3⟩ := sl k
        obtain ⟨u1, u2, u3⟩ := un_keep k
        rcases he with rfl | rfl | rfl
        · exact ⟨k + 1, 0, k, 0, by omega, by omega, by omega, by omega, rfl, by rw [lb.keep k 0 hk (by omega) u3 (by omega)]⟩
        · exact ⟨k + 1, _, k, _, by omega, s1, by omega, s1, rfl, by rw [lb.keep k _ hk s1 u1 u2]⟩
        · exact ⟨k + 1, _, k, _, by omega, s2, by omega, s3, rfl, cross k hk⟩
    · simp only [ECt, List.mem_cons, List.not_mem_nil, or_false] at he
      rcases he with rfl | rfl
      · exact ⟨n, 1, n, 0, by omega, by omega, by omega, by omega, rfl, by rw [c1]⟩
      · exact ⟨n, 3, n, 2, by omega, by omega, by omega, by omega, rfl, by rw [c2]⟩
  refine ⟨⟨VT_nodup n, List.nodup_range, fun v hv => ?_, fun c hc => ?_, fun e he => ?_, fun e he => ?_, fun u hu v hv e => ?_⟩, pairA⟩
  · obtain ⟨k, j, hk, hj, rfl⟩ := dec v hv
    obtain ⟨a1, a2⟩ := labT_rng hn h ht hk hj
    obtain ⟨r1, r2⟩ := root _ a1 a2
    rw [qT_lv hj]
    exact List.mem_range.2 (ovN_lt r1 (hR.idem _) (by rw [hna]; exact r2))
  · obtain ⟨r, r1, r2, r3, r4⟩ := ovN_onto (List.mem_range.1 hc)
    rw [hna] at r2
    have hs : r - 1 < S.length := by rw [h.len]; omega
    have hu := h.civ.lt _ (List.getElem_mem hs)
    have hcell := h.civ.cell (r - 1) hs
    obtain ⟨p1, p2⟩ := cnr_in ab hu
    have e : VW W ab (cnr ab S[r - 1]) = r := by rw [VW_cnr, hcell]; omega
    have ex : ∃ k j, k ≤ n ∧ j < 4 ∧ labT bl ab n W k j = r := by
      have hm := lb_vals hl (vs := (VT n).map fun v => labT bl ab n W (v / 4) (v % 4)) (fun k hk j hj => List.mem_map.2 ⟨lv4 k j, mem hk hj, by rw [(lv4_div hj).1, (lv4_div hj).2]⟩) _ p1 p2
      obtain ⟨v, hv, ev⟩ := List.mem_map.1 hm
      obtain ⟨k, j, hk, hj, rfl⟩ := dec v hv
      rw [(lv4_div hj).1, (lv4_div hj).2] at ev
      exact ⟨k, j, hk, hj, ev.trans e⟩
    obtain ⟨k, j, hk, hj, e2⟩ := ex
    refine ⟨lv4 k j, mem hk hj, ?_⟩
    rw [qT_lv hj, e2]
    unfold overP
    rw [r3, r4]
  · obtain ⟨k, j, k', j', a1, a2, a3, a4, rfl, _⟩ := edge e he
    exact ⟨mem a1 a2, mem a3 a4⟩
  · obtain ⟨k, j, k', j', a1, a2, a3, a4, rfl, a5⟩ := edge e he
    show qT bl ab n W (lv4 k j) = qT bl ab n W (lv4 k' j')
    rw [qT_lv a2, qT_lv a4, a5]
  · obtain ⟨k, j, a1, a2, rfl⟩ := dec u hu
    obtain ⟨k', j', a3, a4, rfl⟩ := dec v hv
    rw [qT_lv a2, qT_lv a4] at e
    have := hg _ _ (over_eq _ _ (labT_rng hn h ht a1 a2).1 (labT_rng hn h ht a3 a4).1 e)
    rw [labT_tie hn h ht a1 a2, labT_tie hn h ht a3 a4] at this
    have := congrFun this (lv4 k' j')
    exact cast this.symm (.refl _)
end
end Go.Proofs.Ytcfpdeeipbekfaa.Kn

/- Letters undone, plain: how many rings, by labels of places at levels. -/
namespace Go.Proofs.Ytcfpdeeipbekfaa.Kn
set_option linter.unusedVariables false

/-- A letter undone: the strands go on, or those at i and i + 1 are turned back. -/
abbrev Op := Option Nat
def opR (n : Nat) : Op → (Nat → Nat) → (Nat → Nat) → Prop
  | none, x, y => ∀ p, p < n → y p = x p
  | some i, x, y => x i = x (i + 1) ∧ y i = y (i + 1) ∧ ∀ p, p < n → p ≠ i → p ≠ i + 1 → y p = x p
/-- Labels from level to level, and which labels there are. -/
def Run (n : Nat) : List Op → (Nat → Nat) → (Nat → Nat) → (Nat → Prop) → Prop
  | [], x, y, V => (∀ p, p < n → y p = x p) ∧ ∀ v, V v ↔ ∃ p, p < n ∧ x p = v
  | o :: os, x, y, V => ∃ z U, opR n o x z ∧ Run n os z y U ∧ ∀ v, V v ↔ U v ∨ ∃ p, p < n ∧ x p = v
def At (n : Nat) (x : Nat → Nat) (v : Nat) : Prop := ∃ p, p < n ∧ x p = v
def Cl (n : Nat) (os : List Op) (V : Nat → Prop) : Prop := ∃ x, Run n os x x V

theorem opR_congr {n : Nat} {o : Op} {x y x' y' : Nat → Nat} (ho : ∀ i, o = some i → i + 1 < n) (hx : ∀ p, p < n → x' p = x p) (hy : ∀ p, p < n → y' p = y p) (h : opR n o x y) : opR n o x' y' := by
  cases o with
  | none => intro p hp; rw [hx p hp, hy p hp]; exact h p hp
  | some i =>
    have := ho i rfl
    refine ⟨?_, ?_, fun p hp h1 h2 => ?_⟩
    · rw [hx i (by omega), hx (i + 1) this]; exact h.1
    · rw [hy i (by omega), hy (i + 1) this]; exact h.2.1
    · rw [hx p hp, hy p hp]; exact h.2.2 p hp h1 h2
def Ops (n : Nat) (os : List Op) : Prop := ∀ i, some i ∈ os → i + 1 < n
theorem Ops.head {n : Nat} {o : Op} {os : List Op} (h : Ops n (o :: os)) : ∀ i, o = some i → i + 1 < n := fun i e => h i (by rw [e]; exact List.mem_cons_self)
theorem Ops.tail {n : Nat} {o : Op} {os : List Op} (h : Ops n (o :: os)) : Ops n os := fun i hi => h i (List.mem_cons_of_mem _ hi)
theorem Ops.app {n : Nat} {u v : List Op} (h : Ops n u) (k : Ops n v) : Ops n (u ++ v) := fun i hi => (List.mem_append.1 hi).elim (h i) (k i)
theorem Ops.left {n : Nat} {u v : List Op} (h : Ops n (u ++ v)) : Ops n u := fun i hi => h i (List.mem_append_left _ hi)
theorem Ops.right {n : Nat} {u v : List Op} (h : Ops n (u ++ v)) : Ops n v := fun i hi => h i (List.mem_append_right _ hi)

theorem Run.congr {n : Nat} : ∀ {os : List Op} {x y x' y' : Nat → Nat} {V V' : Nat → Prop}, Ops n os → (∀ p, p < n → x' p = x p) → (∀ p, p < n → y' p = y p) → (∀ v, V' v ↔ V v) → Run n os x y V → Run n os x' y' V'
  | [], x, y, x', y', V, V', _, hx, hy, hV, h => ⟨fun p hp => by rw [hx p hp, hy p hp]; exact h.1 p hp, fun v => by
      rw [hV, h.2]
      exact ⟨fun ⟨p, hp, e⟩ => ⟨p, hp, by rw [hx p hp]; exact e⟩, fun ⟨p, hp, e⟩ => ⟨p, hp, by rw [← hx p hp]; exact e⟩⟩⟩
  | o :: os, x, y, x', y', V, V', ho, hx, hy, hV, ⟨z, U, h1, h2, h3⟩ =>
    ⟨z, U, opR_congr ho.head hx (fun _ _ => rfl) h1, Run.congr ho.tail (fun _ _ => rfl) hy (fun _ => Iff.rfl) h2, fun v => by
      rw [hV, h3]
      exact ⟨fun k => k.imp id fun ⟨p, hp, e⟩ => ⟨p, hp, by rw [hx p hp]; exact e⟩, fun k => k.imp id fun ⟨p, hp, e⟩ => ⟨p, hp, by rw [← hx p hp]; exact e⟩⟩⟩
theorem Run.start {n : Nat} : ∀ {os : List Op} {x y : Nat → Nat} {V : Nat → Prop}, Run n os x y V → ∀ v, At n x v → V v
  | [], _, _, _, h, v, k => (h.2 v).2 k
  | _ :: _, _, _, _, ⟨_, _, _, _, h3⟩, v, k => (h3 v).2 (Or.inr k)
theorem Run.stop {n : Nat} : ∀ {os : List Op} {x y : Nat → Nat} {V : Nat → Prop}, Run n os x y V → ∀ v, At n y v → V v
  | [], _, _, _, h, v, ⟨p, hp, e⟩ => (h.2 v).2 ⟨p, hp, by rw [← h.1 p hp]; exact e⟩
  | _ :: _, _, _, _, ⟨_, _, _, h2, h3⟩, v, k => (h3 v).2 (Or.inl (h2.stop v k))
theorem Run.app {n : Nat} : ∀ {u v : List Op} {x y : Nat → Nat} {V : Nat → Prop}, Ops n (u ++ v) → (Run n (u ++ v) x y V ↔ ∃ z U W, Run n u x z U ∧ Run n v z y W ∧ ∀ a, V a ↔ U a ∨ W a)
  | [], v, x, y, V, ho => by
    constructor
    · intro h
      exact ⟨x, At n x, V, ⟨fun _ _ => rfl, fun _ => Iff.rfl⟩, h, fun a => ⟨Or.inr, fun k => k.elim (fun k => h.start a k) id⟩⟩
    · rintro ⟨z, U, W, h1, h2, h3⟩
      refine h2.congr (by simpa using ho) (fun p hp => (h1.1 p hp).symm) (fun _ _ => rfl) fun a => ?_
      rw [h3]
      refine ⟨fun k => k.elim (fun k => ?_) id, Or.inr⟩
      obtain ⟨p, hp, e⟩ := (h1.2 a).1 k
      exact h2.start a ⟨p, hp, by rw [h1.1 p hp]; exact e⟩
  | o :: u, v, x, y, V, ho => by
    have ho' : Ops n (u ++ v) := ho.tail
    constructor
    · rintro ⟨z, U, h1, h2, h3⟩
      obtain ⟨z', U', W, k1, k2, k3⟩ := (Run.app ho').1 h2
      refine ⟨z', fun a => U' a ∨ At n x a, W, ⟨z, U', h1, k1, fun _ => Iff.rfl⟩, k2, fun a => ?_⟩
      rw [h3, k3]
      constructor
      · rintro ((h | h) | h)
        · exact .inl (.inl h)
        · exact .inr h
        · exact .inl (.inr h)
      · rintro ((h | h) | h)
        · exact .inl (.inl h)
        · exact .inr h
        · exact .inl (.inr h)
    · rintro ⟨z', U', W, ⟨z, U, h1, h2, h3⟩, k2, k3⟩
      refine ⟨z, fun a => U a ∨ W a, h1, (Run.app ho').2 ⟨z', U, W, h2, k2, fun _ => Iff.rfl⟩, fun a => ?_⟩
      rw [k3, h3]
      constructor
      · rintro ((h | h) | h)
        · exact .inl (.inl h)
        · exact .inr h
        · exact .inl (.inr h)
      · rintro ((h | h) | h)
        · exact .inl (.inl h)
        · exact .inr h
        · exact .inl (.inr h)
theorem Run.one {n : Nat} {o : Op} {x y : Nat → Nat} {V : Nat → Prop} (ho : ∀ i, o = some i → i + 1 < n) : Run n [o] x y V ↔ opR n o x y ∧ ∀ v, V v ↔ At n y v ∨ At n x v := by
  constructor
  · rintro ⟨z, U, h1, h2, h3⟩
    have e : ∀ v, At n z v ↔ At n y v := fun v => ⟨fun ⟨p, hp, e⟩ => ⟨p, hp, by rw [h2.1 p hp]; exact e⟩, fun ⟨p, hp, e⟩ => ⟨p, hp, by rw [← h2.1 p hp]; exact e⟩⟩
    exact ⟨opR_congr ho (fun _ _ => rfl) (fun p hp => h2.1 p hp) h1, fun v => by rw [h3, h2.2]; exact or_congr (e v) Iff.rfl⟩
  · rintro ⟨h1, h2⟩
    exact ⟨y, At n y, h1, ⟨fun _ _ => rfl, fun _ => Iff.rfl⟩, h2⟩

/-- The labels are not more than the places. -/
theorem Run.fin {n : Nat} : ∀ {os : List Op} {x y : Nat → Nat} {V : Nat → Prop}, Run n os x y V → ∃ us : List Nat, us.length = (os.length + 1) * n ∧ ∀ v, V v → v ∈ us
  | [], x, _, V, h => ⟨(List.range n).map x, by simp, fun v hv => by
      obtain ⟨p, hp, e⟩ := (h.2 v).1 hv
      exact List.mem_map.2 ⟨p, List.mem_range.2 hp, e⟩⟩
  | _ :: os, x, _, V, ⟨z, U, _, h2, h3⟩ => by
    obtain ⟨us, h4, h5⟩ := h2.fin
    refine ⟨(List.range n).map x ++ us, by simp [h4, Nat.succ_mul]; omega, fun v hv => ?_⟩
    rcases (h3 v).1 hv with k | ⟨p, hp, e⟩
    · exact List.mem_append_right _ (h5 v k)
    · exact List.mem_append_left _ (List.mem_map.2 ⟨p, List.mem_range.2 hp, e⟩)
/-- So many labels there may be. -/
def Has (n : Nat) (os : List Op) (r : Nat) : Prop := ∃ V, ∃ vs : List Nat, Cl n os V ∧ vs.Nodup ∧ (∀ v ∈ vs, V v) ∧ vs.length = r
theorem nodup_len {l m : List Nat} (h : l.Nodup) (k : ∀ v ∈ l, v ∈ m) : l.length ≤ m.length := by
  induction l generalizing m with
  | nil => exact Nat.zero_le _
  | cons a l ih =>
    have ha := k a List.mem_cons_self
    have h1 := List.nodup_cons.1 h
    have := ih (m := m.erase a) h1.2 fun v hv => (List.mem_erase_of_ne (fun e : v = a => h1.1 (e ▸ hv))).2 (k v (List.mem_cons_of_mem _ hv))
    rw [List.length_erase_of_mem ha] at this
    have : 0 < m.length := List.length_pos_of_mem ha
    rw [List.length_cons]; omega
theorem Has.le {n : Nat} {os : List Op} {r : Nat} (h : Has n os r) : r ≤ (os.length + 1) * n := by
  obtain ⟨V, vs, ⟨x, hx⟩, h2, h3, rfl⟩ := h
  obtain ⟨us, e, k⟩ := hx.fin
  rw [← e]
  exact nodup_len h2 fun v hv => k v (h3 v hv)
theorem same_run {n : Nat} : ∀ (os : List Op), ∃ V, Run n os (fun _ => 0) (fun _ => 0) V
  | [] => ⟨_, fun _ _ => rfl, fun _ => Iff.rfl⟩
  | o :: os => by
    obtain ⟨V, h⟩ := same_run (n := n) os
    refine ⟨_, fun _ => 0, V, ?_, h, fun _ => Iff.rfl⟩
    cases o with
    | none => intro _ _; rfl
    | some i => exact ⟨rfl, rfl, fun _ _ _ _ => rfl⟩
theorem Has.zero (n : Nat) (os : List Op) : Has n os 0 := by
  obtain ⟨V, h⟩ := same_run (n := n) os
  exact ⟨V, [], ⟨_, h⟩, List.nodup_nil, fun _ h => by simp at h, rfl⟩
theorem max_of {P : Nat → Prop} {b : Nat} (h0 : P 0) (hb : ∀ r, P r → r ≤ b) : ∃ r, P r ∧ ∀ s, P s → s ≤ r := by
  refine Classical.byContradiction fun hc => ?_
  have : ∀ k, ∃ r, k ≤ r ∧ P r := by
    intro k
    induction k with
    | zero => exact ⟨0, Nat.le_refl _, h0⟩
    | succ k ih =>
      obtain ⟨r, h1, h2⟩ := ih
      refine Classical.byContradiction fun hk => hc ⟨r, h2, fun s hs => ?_⟩
      refine Classical.byContradiction fun hsr => hk ⟨s, by omega, hs⟩
  obtain ⟨r, h1, h2⟩ := this (b + 1)
  have := hb r h2
  omega
theorem rings_ex (n : Nat) (os : List Op) : ∃ r, Has n os r ∧ ∀ s, Has n os s → s ≤ r := max_of (Has.zero n os) fun _ h => h.le
/-- How many rings there are. -/
noncomputable def ringsO (n : Nat) (os : List Op) : Nat := Classical.choose (rings_ex n os)
theorem ringsO_has (n : Nat) (os : List Op) : Has n os (ringsO n os) := (Classical.choose_spec (rings_ex n os)).1
theorem ringsO_max {n : Nat} {os : List Op} {s : Nat} (h : Has n os s) : s ≤ ringsO n os := (Classical.choose_spec (rings_ex n os)).2 s h
theorem ringsO_is {n : Nat} {os : List Op} {r : Nat} (h : Has n os r) (k : ∀ s, Has n os s → s ≤ r) : ringsO n os = r := Nat.le_antisymm (k _ (ringsO_has n os)) (ringsO_max h)

/-- Going around. -/
theorem Cl.round {n : Nat} {u v : List Op} {V : Nat → Prop} (ho : Ops n (u ++ v)) (h : Cl n (u ++ v) V) : Cl n (v ++ u) V := by
  obtain ⟨x, hx⟩ := h
  obtain ⟨z, U, W, h1, h2, h3⟩ := (Run.app ho).1 hx
  exact ⟨z, (Run.app (ho.right.app ho.left)).2 ⟨x, W, U, h2, h1, fun a => (h3 a).trans Or.comm⟩⟩
/-- One strand more, that goes on. -/
theorem Run.up {n : Nat} : ∀ {os : List Op} {x y : Nat → Nat} {V : Nat → Prop} (e : Nat), Ops n os → Run n os x y V → Run (n + 1) os (fun p => if p = n then e else x p) (fun p => if p = n then e else y p) fun v => V v ∨ v = e
  | [], x, y, V, e, _, h => ⟨fun p hp => by
      by_cases c : p = n
      · simp only [if_pos c]
      · simp only [if_neg c]; exact h.1 p (by omega), fun v => by
      constructor
      · rintro (k | rfl)
        · obtain ⟨p, hp, k⟩ := (h.2 v).1 k
          exact ⟨p, by omega, by simp only [if_neg (show p ≠ n by omega)]; exact k⟩
        · exact ⟨n, by omega, if_pos rfl⟩
      · rintro ⟨p, hp, k⟩
        by_cases c : p = n
        · simp only [if_pos c] at k; exact .inr k.symm
        · simp only [if_neg c] at k; exact .inl ((h.2 v).2 ⟨p, by omega, k⟩)⟩
  | o :: os, x, y, V, e, ho, ⟨z, U, h1, h2, h3⟩ => by
    refine ⟨_, _, ?_, h2.up e ho.tail, fun v => ?_⟩
    · cases o with
      | none =>
        intro p hp
        by_cases c : p = n
        · simp only [if_pos c]
        · simp only [if_neg c]; exact h1 p (by omega)
      | some i =>
        have := ho.head i rfl
        refine ⟨?_, ?_, fun p hp a b => ?_⟩
        · simp only [if_neg (show i ≠ n by omega), if_neg (show i + 1 ≠ n by omega)]; exact h1.1
        · simp only [if_neg (show i ≠ n by omega), if_neg (show i + 1 ≠ n by omega)]; exact h1.2.1
        · by_cases c : p = n
          · simp only [if_pos c]
          · simp only [if_neg c]; exact h1.2.2 p (by omega) a b
    · constructor
      · rintro (k | rfl)
        · rcases (h3 v).1 k with k | ⟨p, hp, k⟩
          · exact .inl (.inl k)
          · exact .inr ⟨p, by omega, by simp only [if_neg (show p ≠ n by omega)]; exact k⟩
        · exact .inl (.inr rfl)
      · rintro ((k | k) | ⟨p, hp, k⟩)
        · exact .inl ((h3 v).2 (.inl k))
        · exact .inr k
        · by_cases c : p = n
          · simp only [if_pos c] at k; exact .inr k.symm
          · simp only [if_neg c] at k; exact .inl ((h3 v).2 (.inr ⟨p, by omega, k⟩))
theorem Ops.more {n : Nat} {os : List Op} (h : Ops n os) : Ops (n + 1) os := fun i hi => by have := h i hi; omega
end Go.Proofs.Ytcfpdeeipbekfaa.Kn

/- The bracket of a closed word, plain: what goes around, what is undone, one strand more. -/
namespace Go.Proofs.Ytcfpdeeipbekfaa.Kn
set_option linter.unusedVariables false

theorem Let.op {n : Nat} {a : Int} (h : Let n a) : a.natAbs - 1 + 1 < n := by
  have h0 : a.natAbs ≠ 0 := fun e => h.ne (Int.natAbs_eq_zero.1 e)
  have := h.lt
  omega
end Go.Proofs.Ytcfpdeeipbekfaa.Kn

/- Rings of a closed word's states, plain: labels of places at levels. -/
namespace Go.Proofs.Ytcfpdeeipbekfaa.Kn
set_option linter.unusedVariables false

/- a state's roots: what is tied has one root; what respects the ties is told at the root -/
def TiesAll (X : List Qd) (st : Nat) (R : Nat → Nat → Prop) : Prop :=
  match X with
  | [] => True
  | x :: X => (if st % 2 = 0 then R x.1 x.2.1 ∧ R x.2.2.1 x.2.2.2 else R x.2.1 x.2.2.1 ∧ R x.2.2.2 x.1) ∧ TiesAll X (st / 2) R
def Qin (n : Nat) (x : Qd) : Prop := (1 ≤ x.1 ∧ x.1 ≤ 2 * n) ∧ (1 ≤ x.2.1 ∧ x.2.1 ≤ 2 * n) ∧ (1 ≤ x.2.2.1 ∧ x.2.2.1 ≤ 2 * n) ∧ (1 ≤ x.2.2.2 ∧ x.2.2.2 ≤ 2 * n)
theorem un_rt {n : Nat} {s : Rt} (h : RtOk n s) {a b : Nat} {x : Nat} (hx : x ≤ 2 * n) : rt (un s a b).1 x = if rt s.1 x = rt s.1 a then rt s.1 b else rt s.1 x := by
  unfold un
  split
  · rename_i e
    split
    · rename_i e2; rw [e2, e]
    · rfl
  · exact rt_map' _ _ (by have := h.len; omega)
theorem un_keep {n : Nat} {s : Rt} (h : RtOk n s) {a b x y : Nat} (hx : x ≤ 2 * n) (hy : y ≤ 2 * n) (e : rt s.1 x = rt s.1 y) : rt (un s a b).1 x = rt (un s a b).1 y := by
  rw [un_rt h hx, un_rt h hy, e]
theorem un_tie {n : Nat} {s : Rt} (h : RtOk n s) {a b : Nat} (ha : a ≤ 2 * n) (hb : b ≤ 2 * n) : rt (un s a b).1 a = rt (un s a b).1 b := by
  rw [un_rt h ha, un_rt h hb, if_pos rfl]
  split <;> rfl
theorem un_lab {n : Nat} {s : Rt} (h : RtOk n s) {α : Type} {H : Nat → α} {a b : Nat} (ha : 1 ≤ a ∧ a ≤ 2 * n) (hb : 1 ≤ b ∧ b ≤ 2 * n) (he : H a = H b) (hs : ∀ x, 1 ≤ x → x ≤ 2 * n → H (rt s.1 x) = H x) : ∀ x, 1 ≤ x → x ≤ 2 * n → H (rt (un s a b).1 x) = H x := fun x h1 h2 => by
  rw [un_rt h h2]
  split
  · rename_i e
    rw [hs b hb.1 hb.2, ← he, ← hs a ha.1 ha.2, ← e, hs x h1 h2]
  · exact hs x h1 h2
theorem state_keep {n : Nat} : ∀ {X : List Qd} {s : Rt} (h : RtOk n s) (hX : ∀ q ∈ X, Qin n q) (st : Nat) {x y : Nat}, x ≤ 2 * n → y ≤ 2 * n → rt s.1 x = rt s.1 y → rt (stateF X s st).1 x = rt (stateF X s st).1 y
  | [], s, h, hX, st, x, y, hx, hy, e => e
  | q :: X, s, h, hX, st, x, y, hx, hy, e => by
    obtain ⟨⟨a1, a2⟩, ⟨b1, b2⟩, ⟨c1, c2⟩, d1, d2⟩ := hX q (by simp)
    rw [stateF]
    unfold unA
    split
    · exact state_keep ((h.un a1 a2 b1 b2).un c1 c2 d1 d2) (fun r hr => hX r (by simp [hr])) _ hx hy (un_keep (h.un a1 a2 b1 b2) hx hy (un_keep h hx hy e))
    · exact state_keep ((h.un b1 b2 c1 c2).un d1 d2 a1 a2) (fun r hr => hX r (by simp [hr])) _ hx hy (un_keep (h.un b1 b2 c1 c2) hx hy (un_keep h hx hy e))
theorem state_ties {n : Nat} : ∀ {X : List Qd} {s : Rt} (h : RtOk n s) (hX : ∀ q ∈ X, Qin n q) (st : Nat), TiesAll X st fun x y => rt (stateF X s st).1 x = rt (stateF X s st).1 y
  | [], s, h, hX, st => trivial
  | q :: X, s, h, hX, st => by
    obtain ⟨⟨a1, a2⟩, ⟨b1, b2⟩, ⟨c1, c2⟩, d1, d2⟩ := hX q (by simp)
    have hX' : ∀ r ∈ X, Qin n r := fun r hr => hX r (by simp [hr])
    rw [stateF]
    unfold unA TiesAll
    split
    · have h1 := h.un a1 a2 b1 b2
      have h2 := h1.un c1 c2 d1 d2
      exact ⟨⟨state_keep h2 hX' _ a2 b2 (un_keep h1 a2 b2 (un_tie h a2 b2)), state_keep h2 hX' _ c2 d2 (un_tie h1 c2 d2)⟩, state_ties h2 hX' _⟩
    · have h1 := h.un b1 b2 c1 c2
      have h2 := h1.un d1 d2 a1 a2
      exact ⟨⟨state_keep h2 hX' _ b2 c2 (un_keep h1 b2 c2 (un_tie h b2 c2)), state_keep h2 hX' _ d2 a2 (un_tie h1 d2 a2)⟩, state_ties h2 hX' _⟩
theorem state_lab {n : Nat} {α : Type} {H : Nat → α} : ∀ {X : List Qd} {s : Rt} (h : RtOk n s) (hX : ∀ q ∈ X, Qin n q) (st : Nat), TiesAll X st (fun x y => H x = H y) → (∀ x, 1 ≤ x → x ≤ 2 * n → H (rt s.1 x) = H x) → ∀ x, 1 ≤ x → x ≤ 2 * n → H (rt (stateF X s st).1 x) = H x
  | [], s, h, hX, st, ht, hs => hs
  | q :: X, s, h, hX, st, ht, hs => by
    obtain ⟨⟨a1, a2⟩, ⟨b1, b2⟩, ⟨c1, c2⟩, d1, d2⟩ := hX q (by simp)
    have hX' : ∀ r ∈ X, Qin n r := fun r hr => hX r (by simp [hr])
    obtain ⟨t1, t2⟩ := ht
    rw [stateF]
    unfold unA
    split
    · rename_i c
      rw [if_pos c] at t1
      exact state_lab ((h.un a1 a2 b1 b2).un c1 c2 d1 d2) hX' _ t2 (un_lab (h.un a1 a2 b1 b2) ⟨c1, c2⟩ ⟨d1, d2⟩ t1.2 (un_lab h ⟨a1, a2⟩ ⟨b1, b2⟩ t1.1 hs))
    · rename_i c
      rw [if_neg c] at t1
      exact state_lab ((h.un b1 b2 c1 c2).un d1 d2 a1 a2) hX' _ t2 (un_lab (h.un b1 b2 c1 c2) ⟨d1, d2⟩ ⟨a1, a2⟩ t1.2 (un_lab h ⟨b1, b2⟩ ⟨c1, c2⟩ t1.1 hs))

/-- The letters undone in a state. -/
def opsB : List Int → Nat → List Op
  | [], _ => []
  | a :: w, st => (if (0 < a ↔ st % 2 = 0) then none else some (a.natAbs - 1)) :: opsB w (st / 2)
theorem opsB_len : ∀ (w : List Int) (st : Nat), (opsB w st).length = w.length
  | [], _ => rfl
  | a :: w, st => by rw [opsB, List.length_cons, opsB_len w, List.length_cons]
theorem opsB_at : ∀ (w : List Int) (st k : Nat), k < w.length → (opsB w st).getD k none = if (0 < w.getD k 0 ↔ (st / 2 ^ k) % 2 = 0) then none else some ((w.getD k 0).natAbs - 1)
  | a :: w, st, 0, _ => by simp [opsB]
  | a :: w, st, k + 1, h => by
    rw [opsB, List.getD_cons_succ, List.getD_cons_succ, opsB_at w (st / 2) k (by simpa using h), Nat.div_div_eq_div_mul, Nat.pow_succ, Nat.mul_comm 2]
theorem opsB_ops {n : Nat} {w : List Int} (hw : LetsM n w) : ∀ st, Ops n (opsB w st) := by
  intro st i hi
  obtain ⟨k, hk, e⟩ := List.getElem_of_mem hi
  rw [opsB_len] at hk
  have h1 := opsB_at w st k hk
  rw [List.getD_eq_getElem?_getD, List.getElem?_eq_getElem (by rw [opsB_len]; exact hk), e] at h1
  simp only [Option.getD_some] at h1
  split at h1
  · cases h1
  · injection h1 with h1
    have := hw.iw hk
    unfold iw at this; omega
/-- Levels of labels make a run. -/
theorem run_levels {n : Nat} : ∀ (os : List Op) (g : Nat → Nat → Nat), (∀ k, k < os.length → opR n (os.getD k none) (g k) (g (k + 1))) → Run n os (g 0) (g os.length) fun v => ∃ k, k ≤ os.length ∧ At n (g k) v
  | [], g, _ => ⟨fun _ _ => rfl, fun v => ⟨fun ⟨k, hk, h⟩ => by
      obtain rfl : k = 0 := by simpa using hk
      exact h, fun h => ⟨0, Nat.le_refl _, h⟩⟩⟩
  | o :: os, g, h => by
    have ih := run_levels os (fun k => g (k + 1)) fun k hk => by
      have := h (k + 1) (by rw [List.length_cons]; omega)
      rwa [List.getD_cons_succ] at this
    have h0 := h 0 (by rw [List.length_cons]; omega)
    refine ⟨g 1, _, h0, ih, fun v => ?_⟩
    constructor
    · rintro ⟨k, hk, hv⟩
      cases k with
      | zero => exact .inr hv
      | succ k => exact .inl ⟨k, by rw [List.length_cons] at hk; omega, hv⟩
    · rintro (⟨k, hk, hv⟩ | hv)
      · exact ⟨k + 1, by rw [List.length_cons]; omega, hv⟩
      · exact ⟨0, Nat.zero_le _, hv⟩
theorem levels_run {n : Nat} : ∀ {os : List Op} {x y : Nat → Nat} {V : Nat → Prop}, Run n os x y V → ∃ g : Nat → Nat → Nat, g 0 = x ∧ (∀ p, p < n → y p = g os.length p) ∧ (∀ k, k < os.length → opR n (os.getD k none) (g k) (g (k + 1))) ∧ ∀ v, V v → ∃ k, k ≤ os.length ∧ At n (g k) v
  | [], x, y, V, h => ⟨fun _ => x, rfl, h.1, fun k hk => by simp at hk, fun v hv => ⟨0, Nat.le_refl _, (h.2 v).1 hv⟩⟩
  | o :: os, x, y, V, h => by
    obtain ⟨z, U, h1, h2, h3⟩ := h
    obtain ⟨g, g0, gl, gs, gv⟩ := levels_run h2
    refine ⟨fun k => match k with | 0 => x | k + 1 => g k, rfl, gl, fun k hk => ?_, fun v hv => ?_⟩
    · cases k with
      | zero => rw [List.getD_cons_zero]; show opR n o x (g 0); rw [g0]; exact h1
      | succ k => rw [List.getD_cons_succ]; exact gs k (by rw [List.length_cons] at hk; omega)
    · rcases (h3 v).1 hv with hv | hv
      · obtain ⟨k, hk, ha⟩ := gv v hv
        exact ⟨k + 1, by rw [List.length_cons]; omega, ha⟩
      · exact ⟨0, Nat.zero_le _, hv⟩
end Go.Proofs.Ytcfpdeeipbekfaa.Kn

/- Rings of a closed word's states are those of its letters undone, plain. -/
namespace Go.Proofs.Ytcfpdeeipbekfaa.Kn
set_option linter.unusedVariables false

theorem ties_at {R : Nat → Nat → Prop} : ∀ (X : List Qd) (st : Nat), TiesAll X st R ↔ ∀ k (h : k < X.length), (if st / 2 ^ k % 2 = 0 then R X[k].1 X[k].2.1 ∧ R X[k].2.2.1 X[k].2.2.2 else R X[k].2.1 X[k].2.2.1 ∧ R X[k].2.2.2 X[k].1)
  | [], st => ⟨fun _ k h => by simp at h, fun _ => trivial⟩
  | x :: X, st => by
    unfold TiesAll
    rw [ties_at X]
    constructor
    · rintro ⟨h1, h2⟩ k hk
      cases k with
      | zero => simpa using h1
      | succ k =>
        have := h2 k (by simpa using hk)
        rw [Nat.div_div_eq_div_mul] at this
        rw [Nat.pow_succ, Nat.mul_comm (2 ^ k)]
        exact this
    · intro h
      refine ⟨?_, fun k hk => ?_⟩
      · have := h 0 (by simp)
        rw [Nat.pow_zero, Nat.div_one] at this
        exact this
      · have := h (k + 1) (by simpa using hk)
        rw [Nat.pow_succ, Nat.mul_comm (2 ^ k), ← Nat.div_div_eq_div_mul] at this
        exact this
section
variable {n : Nat} {w : List Int} {A : List Nat} {N : Nat × Nat → Nat}
theorem closX_qd (h : Clo w A N) {k : Nat} (hk : k < ((closX w A).map qd).length) : ((closX w A).map qd)[k] = (arcN (closX w A) (k, 0), arcN (closX w A) (k, 1), arcN (closX w A) (k, 2), arcN (closX w A) (k, 3)) := by
  have hk' : k < (closX w A).length := by simpa using hk
  rw [List.getElem_map]
  have e : cr (closX w A) k = (closX w A)[k] := by unfold cr; rw [List.getD_eq_getElem?_getD, List.getElem?_eq_getElem hk']; rfl
  unfold arcN at_
  rw [e]
  rfl
/-- A state's ties, told by levels. -/
theorem Clo.ties (h : Clo w A N) {R : Nat → Nat → Prop} (st : Nat) : TiesAll ((closX w A).map qd) st R ↔ ∀ k, k < w.length →
    (if 0 < w.getD k 0 ↔ st / 2 ^ k % 2 = 0 then R (labC w N k (iw w k + 1)) (labC w N (k + 1) (iw w k + 1)) ∧ R (labC w N (k + 1) (iw w k)) (labC w N k (iw w k))
      else R (labC w N (k + 1) (iw w k + 1)) (labC w N (k + 1) (iw w k)) ∧ R (labC w N k (iw w k)) (labC w N k (iw w k + 1))) := by
  rw [ties_at]
  have hl : ((closX w A).map qd).length = w.length := by rw [List.length_map, closX_len]
  have key : ∀ k (hk : k < ((closX w A).map qd).length), (if st / 2 ^ k % 2 = 0 then R ((closX w A).map qd)[k].1 ((closX w A).map qd)[k].2.1 ∧ R ((closX w A).map qd)[k].2.2.1 ((closX w A).map qd)[k].2.2.2 else R ((closX w A).map qd)[k].2.1 ((closX w A).map qd)[k].2.2.1 ∧ R ((closX w A).map qd)[k].2.2.2 ((closX w A).map qd)[k].1) ↔
      (if 0 < w.getD k 0 ↔ st / 2 ^ k % 2 = 0 then R (labC w N k (iw w k + 1)) (labC w N (k + 1) (iw w k + 1)) ∧ R (labC w N (k + 1) (iw w k)) (labC w N k (iw w k))
      else R (labC w N (k + 1) (iw w k + 1)) (labC w N (k + 1) (iw w k)) ∧ R (labC w N k (iw w k)) (labC w N k (iw w k + 1))) := by
    intro k hk
    have hk' : k < w.length := by omega
    have ha := h.arcs hk'
    have a0 : arcN (closX w A) (ofR w k 0) = labC w N k (iw w k) := ha 0 (by omega)
    have a1 : arcN (closX w A) (ofR w k 1) = labC w N k (iw w k + 1) := ha 1 (by omega)
    have a2 : arcN (closX w A) (ofR w k 2) = labC w N (k + 1) (iw w k + 1) := ha 2 (by omega)
    have a3 : arcN (closX w A) (ofR w k 3) = labC w N (k + 1) (iw w k) := ha 3 (by omega)
    rw [closX_qd h hk]
    by_cases c : 0 < w.getD k 0
    · rw [ofR_eq (s := 3) (by rw [if_pos c])] at a0
      rw [ofR_eq (s := 0) (by rw [if_pos c])] at a1
      rw [ofR_eq (s := 1) (by rw [if_pos c])] at a2
      rw [ofR_eq (s := 2) (by rw [if_pos c])] at a3
      simp only [a0, a1, a2, a3]
      by_cases b : st / 2 ^ k % 2 = 0
      · rw [if_pos b, if_pos ⟨fun _ => b, fun _ => c⟩]
      · rw [if_neg b, if_neg fun k => b (k.1 c)]
    · rw [ofR_eq (s := 0) (by rw [if_neg c])] at a0
      rw [ofR_eq (s := 1) (by rw [if_neg c])] at a1
      rw [ofR_eq (s := 2) (by rw [if_neg c])] at a2
      rw [ofR_eq (s := 3) (by rw [if_neg c])] at a3
      simp only [a0, a1, a2, a3]
      by_cases b : st / 2 ^ k % 2 = 0
      · rw [if_pos b, if_neg fun k => c (k.2 b)]; exact ⟨fun ⟨x, y⟩ => ⟨y, x⟩, fun ⟨x, y⟩ => ⟨y, x⟩⟩
      · rw [if_neg b, if_pos ⟨fun k => absurd k c, fun k => absurd k b⟩]
  exact ⟨fun g k hk => (key k (by omega)).1 (g k (by omega)), fun g k hk => (key k hk).2 (g k (by omega))⟩
theorem Clo.qin (h : Clo w A N) : ∀ q ∈ (closX w A).map qd, Qin w.length q := by
  have := h.ok.qd_rng
  rw [closX_len] at this
  exact this
/-- THE RINGS OF A STATE. -/
theorem Clo.rings (h : Clo w A N) (hw : LetsM n w) (st : Nat) : ringsN (closX w A) ((List.range n).countP (freeB w)) st = ringsO n (opsB w st) := by
  have hO := opsB_ops hw st
  have hq := h.qin
  have hS := RtOk.start w.length
  have hR := RtOk.state hS hq st
  obtain ⟨s, hs⟩ : ∃ s, s = stateF ((closX w A).map qd) (start w.length) st := ⟨_, rfl⟩
  rw [← hs] at hR
  have hcnt := hR.cnt
  have hol : (opsB w st).length = w.length := opsB_len w st
  have touched : ∀ {k p}, Tch w k p → ¬ Free w p := fun ht hf => hf _ ht
  have roots_mem : ∀ r, r ∈ (List.range (2 * w.length + 1)).filter (fun a => decide (1 ≤ a) && decide (rt s.1 a = a)) ↔ (1 ≤ r ∧ r ≤ 2 * w.length ∧ rt s.1 r = r) := fun r => by
    rw [List.mem_filter, List.mem_range]
    simp only [Bool.and_eq_true, decide_eq_true_eq]
    omega
  have hrl : ((List.range (2 * w.length + 1)).filter (fun a => decide (1 ≤ a) && decide (rt s.1 a = a))).length + s.2 = 2 * w.length := by
    rw [← List.countP_eq_length_filter]; exact hcnt
  have hfl : ((List.range n).filter (freeB w)).length = (List.range n).countP (freeB w) := List.countP_eq_length_filter.symm
  have htot : ringsN (closX w A) ((List.range n).countP (freeB w)) st = ((List.range (2 * w.length + 1)).filter (fun a => decide (1 ≤ a) && decide (rt s.1 a = a))).length + ((List.range n).filter (freeB w)).length := by
    unfold ringsN
    rw [closX_len, ← hs, hfl]
    omega
  rw [htot]
  refine (ringsO_is ?_ fun r hr => ?_).symm
  · -- labels by roots
    let g : Nat → Nat → Nat := fun k p => if freeB w p = true then 2 * w.length + 1 + p else rt s.1 (labC w N k p)
    have hT := (h.ties st).1 (state_ties hS hq st)
    rw [← hs] at hT
    have gon : ∀ k p, k < w.length → ¬ Tch w k p → g (k + 1) p = g k p := fun k p hk ht => by
      show (if _ then _ else rt s.1 (labC w N (k + 1) p)) = if _ then _ else rt s.1 (labC w N k p)
      unfold labC
      rw [nxT_on hk ht]
    have gt : ∀ {j p}, Tch w j p → ∀ k, g k p = rt s.1 (labC w N k p) := fun ht k => if_neg (fun e => touched ht (freeB_iff.1 e))
    have hlev : ∀ k, k < (opsB w st).length → opR n ((opsB w st).getD k none) (g k) (g (k + 1)) := by
      intro k hk
      rw [hol] at hk
      have t0 : Tch w k (iw w k) := ⟨hk, .inl rfl⟩
      have t1 : Tch w k (iw w k + 1) := ⟨hk, .inr rfl⟩
      have hTk := hT k hk
      rw [opsB_at w st k hk]
      by_cases c : (0 < w.getD k 0 ↔ st / 2 ^ k % 2 = 0)
      · rw [if_pos c] at hTk ⊢
        intro p hp
        by_cases ht : Tch w k p
        · rcases ht.2 with e | e
          · rw [e, gt t0, gt t0]; exact hTk.2
          · rw [e, gt t1, gt t1]; exact hTk.1.symm
        · exact gon k p hk ht
      · rw [if_neg c] at hTk ⊢
        show g k (iw w k) = g k (iw w k + 1) ∧ g (k + 1) (iw w k) = g (k + 1) (iw w k + 1) ∧ _
        refine ⟨?_, ?_, fun p hp h1 h2 => gon k p hk fun ht => ht.2.elim h1 h2⟩
        · rw [gt t0, gt t1]; exact hTk.2
        · rw [gt t0, gt t1]; exact hTk.1.symm
    have hrun := run_levels (opsB w st) g hlev
    have hgl : ∀ p, p < n → g 0 p = g (opsB w st).length p := fun p _ => by
      rw [hol]
      show (if _ then _ else rt s.1 (labC w N 0 p)) = if _ then _ else rt s.1 (labC w N w.length p)
      unfold labC
      rw [nxT_round]
    have hcl := Run.congr hO (fun _ _ => rfl) hgl (fun _ => Iff.rfl) hrun
    refine ⟨_, (List.range (2 * w.length + 1)).filter (fun a => decide (1 ≤ a) && decide (rt s.1 a = a)) ++ ((List.range n).filter (freeB w)).map (2 * w.length + 1 + ·), ⟨g 0, hcl⟩, ?_, fun v hv => ?_, by rw [List.length_append, List.length_map]⟩
    · rw [List.nodup_append]
      refine ⟨List.nodup_range.sublist List.filter_sublist, ?_, ?_⟩
      · rw [List.Nodup, List.pairwise_map]
        exact List.Pairwise.imp (fun hab e => hab (by omega)) (List.nodup_range.sublist List.filter_sublist)
      · intro a ha b hb e
        have := (roots_mem a).1 ha
        obtain ⟨p, _, rfl⟩ := List.mem_map.1 hb
        omega
    · rcases List.mem_append.1 hv with hv | hv
      · obtain ⟨r1, r2, r3⟩ := (roots_mem v).1 hv
        obtain ⟨x, hx, e⟩ := hit_all h.rng h.inj r1 r2
        obtain ⟨k, p⟩ := x
        have hxt : Tch w k p := hx
        have hpn : p < n := by
          have := (hw.iw hxt.1).2
          have := hxt.2; omega
        refine ⟨k, by rw [hol]; have := hxt.1; omega, p, hpn, ?_⟩
        rw [gt hxt]
        unfold labC
        rw [nxT_touch hxt, e, r3]
      · obtain ⟨p, hp, rfl⟩ := List.mem_map.1 hv
        obtain ⟨p1, p2⟩ := List.mem_filter.1 hp
        exact ⟨0, Nat.zero_le _, p, List.mem_range.1 p1, if_pos p2⟩
  · -- no more
    obtain ⟨V, vs, ⟨x, hx⟩, h2, h3, rfl⟩ := hr
    obtain ⟨g, g0, gl, gs, gv⟩ := levels_run hx
    rw [hol] at gl gv
    have hg0 : ∀ p, p < n → g w.length p = g 0 p := fun p hp => by rw [← gl p hp, g0]
    have gon : ∀ k p, k < w.length → p < n → ¬ Tch w k p → g (k + 1) p = g k p := fun k p hk hp ht => by
      have := gs k (by rw [hol]; exact hk)
      rw [opsB_at w st k hk] at this
      split at this
      · exact this p hp
      · exact this.2.2 p hp (fun e => ht ⟨hk, .inl e⟩) fun e => ht ⟨hk, .inr e⟩
    have hH : ∃ H : Nat → Nat, ∀ k p, Tch w k p → H (N (k, p)) = g k p := by
      have h1 : ∀ a : Nat, ∃ v : Nat, ∀ k p, Tch w k p → N (k, p) = a → v = g k p := fun a => by
        by_cases hh : ∃ x : Nat × Nat, TchX w x ∧ N x = a
        · obtain ⟨y, hy, rfl⟩ := hh
          refine ⟨g y.1 y.2, fun k p ht e => ?_⟩
          have := h.inj (k, p) y ht hy e
          rw [← this]
        · exact ⟨0, fun k p ht e => absurd ⟨(k, p), ht, e⟩ hh⟩
      obtain ⟨H, hH⟩ := Classical.axiomOfChoice h1
      exact ⟨H, fun k p ht => hH _ k p ht rfl⟩
    obtain ⟨H, hH⟩ := hH
    have hlab : ∀ k p, k ≤ w.length → p < n → ¬ Free w p → H (labC w N k p) = g k p := fun k p hk hp hf => by
      have ex : ∃ j, Tch w j p := Classical.byContradiction fun c => hf fun j hj => c ⟨j, hj⟩
      unfold labC
      rw [hH _ _ (nxT_is ex hk)]
      exact nxT_const (f := fun k => g k p) (fun j hj ht => gon j p hj hp ht) (hg0 p hp) hk
    have hties : TiesAll ((closX w A).map qd) st fun a b => H a = H b := (h.ties st).2 fun k hk => by
      have t0 : Tch w k (iw w k) := ⟨hk, .inl rfl⟩
      have t1 : Tch w k (iw w k + 1) := ⟨hk, .inr rfl⟩
      obtain ⟨_, i2⟩ := hw.iw hk
      have this := gs k (by rw [hol]; exact hk)
      rw [opsB_at w st k hk] at this
      rw [hlab k _ (by omega) (by omega) (touched t1), hlab (k + 1) _ (by omega) (by omega) (touched t1), hlab k _ (by omega) (by omega) (touched t0), hlab (k + 1) _ (by omega) (by omega) (touched t0)]
      by_cases c : (0 < w.getD k 0 ↔ st / 2 ^ k % 2 = 0)
      · rw [if_pos c] at this ⊢
        exact ⟨(this _ (by omega)).symm, this _ (by omega)⟩
      · rw [if_neg c] at this ⊢
        exact ⟨this.2.1.symm, this.1⟩
    have hst := state_lab hS hq st hties (fun x h1 h2 => by rw [rt_start h2])
    rw [← hs] at hst
    have := nodup_len (m := ((List.range (2 * w.length + 1)).filter (fun a => decide (1 ≤ a) && decide (rt s.1 a = a))).map H ++ ((List.range n).filter (freeB w)).map (g 0)) h2 fun v hv => by
      obtain ⟨k, hk, p, hp, e⟩ := gv v (h3 v hv)
      rw [List.mem_append]
      by_cases hf : Free w p
      · refine .inr (List.mem_map.2 ⟨p, List.mem_filter.2 ⟨List.mem_range.2 hp, freeB_iff.2 hf⟩, ?_⟩)
        have : ∀ k, k ≤ w.length → g k p = g 0 p := by
          intro k
          induction k with
          | zero => intro _; rfl
          | succ k ih => intro hk; rw [gon k p (by omega) hp (hf k), ih (by omega)]
        rw [← e, this k hk]
      · have ex : ∃ j, Tch w j p := Classical.byContradiction fun c => hf fun j hj => c ⟨j, hj⟩
        have ha := h.rng (nxT w k p, p) (nxT_is ex hk)
        have hr := hR.rng _ ha.1 ha.2
        refine .inl (List.mem_map.2 ⟨rt s.1 (labC w N k p), (roots_mem _).2 ⟨hr.1, hr.2, hR.fix _ ha.1 ha.2⟩, ?_⟩)
        exact (hst _ ha.1 ha.2).trans ((hlab k p hk hp hf).trans e)
    rw [List.length_append, List.length_map, List.length_map] at this
    exact this
end
end Go.Proofs.Ytcfpdeeipbekfaa.Kn

/- Plain mathematics: determinants row by row for all sets of places. -/
namespace Pl
abbrev Tab := List (List (List T))
def ent (m : Tab) (i j : Nat) : List T := (m.getD i []).getD j []
def pop (s : Nat) : Nat := (List.range 3).countP fun k => s.testBit k
def sg (b : Nat) : Int := 1 - 2 * ((b : Int) % 2)
theorem sg_one (b : Nat) : sg b = 1 ∨ sg b = -1 := by unfold sg; omega
def sc (s : Int) (l : List T) : List T := l.map fun t => (t.1, s * t.2)
/- one term: the place k of the set s -/
def term (m : Tab) (t : Nat → List T) (s k : Nat) : List T := if s.testBit k then sc (sg (pop (s >>> (k + 1)))) (mul (ent m (pop s - 1) k) (t (s - 2 ^ k))) else []
def outF (m : Tab) (t : Nat → List T) (s : Nat) : Nat → List T
  | 0 => []
  | k + 1 => outF m t s k ++ term m t s k
/- bounds: how many, how great -/
def nbF (c : Nat) : Nat → Nat → Nat
  | 0, _ => 1
  | f + 1, s => if s = 0 then 1 else (if s.testBit 0 then c * nbF c f (s - 2 ^ 0) else 0) + (if s.testBit 1 then c * nbF c f (s - 2 ^ 1) else 0) + (if s.testBit 2 then c * nbF c f (s - 2 ^ 2) else 0)
def nb (c s : Nat) : Nat := nbF c 3 s
theorem sc_size {s : Int} (hs : s = 1 ∨ s = -1) (l : List T) : size (sc s l) = size l := by
  induction l with
  | nil => rfl
  | cons t l ih =>
    show size ((t.1, s * t.2) :: sc s l) = _
    rw [size_cons, size_cons, ih]
    show (s * t.2).natAbs + _ = _
    rcases hs with rfl | rfl <;> omega
end Pl

/- Values of polynomials at numbers; what they tell: plain mathematics. -/
namespace Pl
def Low (K : Int) (l : List T) : Prop := ∀ t ∈ l, -K ≤ t.1
/- values of the table of sets -/
/- the value at a number that is not 0 -/
def ev (t : Rat) (l : List T) : Rat := (l.map fun u => (u.2 : Rat) * t ^ u.1).sum
theorem ev_nil (t : Rat) : ev t [] = 0 := rfl
theorem ev_cons (t : Rat) (u : T) (l : List T) : ev t (u :: l) = (u.2 : Rat) * t ^ u.1 + ev t l := by simp [ev]
theorem ev_app (t : Rat) (a b : List T) : ev t (a ++ b) = ev t a + ev t b := by
  induction a with
  | nil => rw [List.nil_append, ev_nil]; grind
  | cons u a ih => rw [List.cons_append, ev_cons, ev_cons, ih]; grind
theorem ev_sc (t : Rat) (s : Int) (l : List T) : ev t (sc s l) = s * ev t l := by
  induction l with
  | nil => show ev t [] = _; rw [ev_nil]; grind
  | cons u l ih =>
    show ev t ((u.1, s * u.2) :: sc s l) = _
    rw [ev_cons, ev_cons, ih]
    simp only [Rat.intCast_mul]
    grind
theorem ev_row {t : Rat} (ht : t ≠ 0) (s : T) (b : List T) : ev t (b.map fun u => (s.1 + u.1, s.2 * u.2)) = (s.2 : Rat) * t ^ s.1 * ev t b := by
  induction b with
  | nil => show ev t [] = _; rw [ev_nil]; grind
  | cons u b ih =>
    rw [List.map_cons, ev_cons, ev_cons, ih]
    simp only [Rat.intCast_mul, Rat.zpow_add ht]
    grind
theorem ev_mul {t : Rat} (ht : t ≠ 0) (a b : List T) : ev t (mul a b) = ev t a * ev t b := by
  induction a with
  | nil => show ev t [] = _; rw [ev_nil]; grind
  | cons s a ih =>
    show ev t ((b.map fun u => (s.1 + u.1, s.2 * u.2)) ++ mul a b) = _
    rw [ev_app, ev_row ht, ih, ev_cons]; grind
/- moved and multiplied -/
theorem ev_sh {t : Rat} (ht : t ≠ 0) (q s : Int) (l : List T) : ev t (l.map fun u => (u.1 + q, s * u.2)) = s * t ^ q * ev t l := by
  induction l with
  | nil => show ev t [] = _; rw [ev_nil]; grind
  | cons u l ih =>
    rw [List.map_cons, ev_cons, ev_cons, ih]
    simp only [Rat.intCast_mul, Rat.zpow_add ht]
    grind
theorem ev_out (t : Rat) (e : Int) : ∀ l : List T, ev t l = co l e * t ^ e + ev t (out e l)
  | [] => by show (0 : Rat) = ((0 : Int) : Rat) * _ + 0; rw [Rat.intCast_zero]; grind
  | u :: l => by
    have ih := ev_out t e l
    rw [ev_cons, co_cons, ih]
    by_cases c : u.1 = e
    · rw [if_pos c]
      have : out e (u :: l) = out e l := by simp [out, c]
      rw [this, c, Rat.intCast_add]; grind
    · rw [if_neg c]
      have : out e (u :: l) = u :: out e l := by simp [out, c]
      rw [this, ev_cons, Int.zero_add]; grind
theorem ev_of_zero (t : Rat) : ∀ (n : Nat) (l : List T), l.length ≤ n → (∀ e, co l e = 0) → ev t l = 0
  | _, [], _, _ => rfl
  | 0, _ :: _, h, _ => by simp at h
  | n + 1, u :: l, hn, h => by
    rw [ev_out t u.1, h, Rat.intCast_zero, ev_of_zero t n (out u.1 (u :: l)) (Nat.le_trans (out_length u l) (by simpa using hn)) fun e => by rw [co_out, h]; split <;> rfl]
    grind
theorem ev_neg (t : Rat) (l : List T) : ev t (neg l) = -ev t l := by
  induction l with
  | nil => show ev t [] = _; rw [ev_nil]; grind
  | cons u l ih =>
    show ev t ((u.1, -u.2) :: neg l) = _
    rw [ev_cons, ev_cons, ih]
    simp only [Rat.intCast_neg]
    grind
theorem co_neg (l : List T) (e : Int) : co (neg l) e = -co l e := tot_neg _ _
theorem ev_congr {l m : List T} (h : ∀ e, co l e = co m e) (t : Rat) : ev t l = ev t m := by
  have := ev_of_zero t _ (l ++ neg m) (Nat.le_refl _) fun e => by rw [co_app, co_neg, h]; omega
  rw [ev_app, ev_neg] at this
  grind
theorem Low.mono {K K' : Int} {l : List T} (h : Low K l) (hk : K ≤ K') : Low K' l := fun t ht => by have := h t ht; omega
/- polynomials that begin at 0, above 0 -/
def Nrm (m : List T) : Prop := Form m ∧ (m = [] ∨ ∃ c r, 0 < c ∧ m = (0, c) :: r)
theorem Nrm.low {m : List T} (h : Nrm m) : Low 0 m := fun t ht => by
  rcases h.2 with rfl | ⟨c, r, hc, rfl⟩
  · simp at ht
  · rcases List.mem_cons.1 ht with rfl | ht
    · exact Int.le_refl _
    · have := h.1.2.1 t ht
      omega
end Pl

/- Polynomials in normal form are told by their values but for signs and powers: plain mathematics. -/
namespace Pl
theorem Low.neg {K : Int} {l : List T} (h : Low K l) : Low K (neg l) := fun t ht => by
  obtain ⟨u, hu, rfl⟩ := List.mem_map.1 ht
  exact h u hu
end Pl

/- Jones's sums over states at a number; those of a closed word, plain. -/
namespace Go.Proofs.Ytcfpdeeipbekfaa.Kn
set_option linter.unusedVariables false

end Go.Proofs.Ytcfpdeeipbekfaa.Kn

/- Determinants by sets of places, of any few rows: plain mathematics. -/
namespace Pl
open Go.Proofs.Ytcfpdeeipbekfaa
/- bits -/
theorem bit_sub : ∀ (k s j : Nat), s.testBit k = true → (s - 2 ^ k).testBit j = (s.testBit j && decide (j ≠ k)) ∧ 2 ^ k ≤ s
  | 0, s, j, h => by
    have h0 : s % 2 = 1 := by simpa [Nat.testBit_zero] using h
    refine ⟨?_, by rw [Nat.pow_zero]; omega⟩
    cases j with
    | zero => simp [Nat.testBit_zero]; omega
    | succ j => rw [Nat.testBit_succ, Nat.testBit_succ, Nat.pow_zero, show (s - 1) / 2 = s / 2 by omega]; simp
  | k + 1, s, j, h => by
    rw [Nat.testBit_succ] at h
    have ih := bit_sub k (s / 2)
    have h2 := (ih 0 h).2
    have hp : 2 ^ (k + 1) = 2 * 2 ^ k := by rw [Nat.pow_succ]; omega
    refine ⟨?_, by omega⟩
    cases j with
    | zero => simp [Nat.testBit_zero]; omega
    | succ j =>
      rw [Nat.testBit_succ, Nat.testBit_succ, show (s - 2 ^ (k + 1)) / 2 = s / 2 - 2 ^ k by omega, (ih j h).1]
      congr 1
      exact decide_eq_decide.2 (by omega)
theorem pop_sub : ∀ (n k s : Nat), k < n → s.testBit k = true → Kn.pop n (s - 2 ^ k) + 1 = Kn.pop n s
  | n + 1, 0, s, _, h => by
    have h0 : s % 2 = 1 := by simpa [Nat.testBit_zero] using h
    rw [Kn.pop, Kn.pop, Nat.pow_zero, show (s - 1) / 2 = s / 2 by omega]; omega
  | n + 1, k + 1, s, hk, h => by
    rw [Nat.testBit_succ] at h
    have h2 := (bit_sub k (s / 2) 0 h).2
    have hp : 2 ^ (k + 1) = 2 * 2 ^ k := by rw [Nat.pow_succ]; omega
    have ih := pop_sub n k (s / 2) (by omega) h
    rw [Kn.pop, Kn.pop, show (s - 2 ^ (k + 1)) / 2 = s / 2 - 2 ^ k by omega]; omega
theorem pop_zero' : ∀ n, Kn.pop n 0 = 0
  | 0 => rfl
  | n + 1 => by rw [Kn.pop, show 0 / 2 = 0 from rfl, pop_zero' n]
theorem pop_pos' : ∀ {n s : Nat}, s < 2 ^ n → s ≠ 0 → 1 ≤ Kn.pop n s
  | 0, s, h, h0 => by rw [Nat.pow_zero] at h; omega
  | n + 1, s, h, h0 => by
    rw [Kn.pop]
    by_cases c : s / 2 = 0
    · omega
    · have := pop_pos' (n := n) (s := s / 2) (by rw [Nat.pow_succ] at h; omega) c
      omega
theorem pop_le' : ∀ (n s : Nat), Kn.pop n s ≤ n
  | 0, _ => Nat.le_refl _
  | n + 1, s => by
    rw [Kn.pop]
    have := pop_le' n (s / 2); omega
theorem pop_up : ∀ {n m st : Nat}, st < 2 ^ n → n ≤ m → Kn.pop m st = Kn.pop n st
  | 0, m, st, h, _ => by
    obtain rfl : st = 0 := by simpa using h
    rw [pop_zero', pop_zero']
  | n + 1, m + 1, st, h, hm => by
    rw [Kn.pop, Kn.pop, pop_up (n := n) (m := m) (by rw [Nat.pow_succ] at h; omega) (by omega)]
theorem pop_step {s : Nat} (h : s < 2 ^ 12) : Kn.pop 12 s = s % 2 + Kn.pop 12 (s / 2) := by
  show s % 2 + Kn.pop 11 (s / 2) = _
  rw [pop_up (n := 11) (m := 12) (by omega) (by omega)]

abbrev pp (s : Nat) : Nat := Kn.pop 12 s
def dterm (m : Tab) (t : Nat → List T) (s k : Nat) : List T := if s.testBit k then sc (sg (pp (s >>> (k + 1)))) (mul (ent m (pp s - 1) k) (t (s - 2 ^ k))) else []
def dout (m : Tab) (t : Nat → List T) (s : Nat) : Nat → List T
  | 0 => []
  | k + 1 => dout m t s k ++ dterm m t s k
def dtF (m : Tab) (n : Nat) : Nat → Nat → List T
  | 0, _ => [(0, 1)]
  | f + 1, s => if s = 0 then [(0, 1)] else dout m (dtF m n f) s n
def dt (m : Tab) (n s : Nat) : List T := dtF m n s s
theorem dout_congr {m : Tab} {t t' : Nat → List T} {s : Nat} (h : ∀ k, s.testBit k = true → t (s - 2 ^ k) = t' (s - 2 ^ k)) : ∀ k, dout m t s k = dout m t' s k
  | 0 => rfl
  | k + 1 => by
    rw [dout, dout, dout_congr h k]
    unfold dterm
    split
    · rw [h k (by assumption)]
    · rfl
theorem dtF_more (m : Tab) (n : Nat) : ∀ f s, s ≤ f → dtF m n f s = dt m n s
  | 0, s, h => by
    obtain rfl : s = 0 := by omega
    rfl
  | f + 1, 0, h => rfl
  | f + 1, s + 1, h => by
    have key : ∀ f', s ≤ f' → (∀ k, (s + 1).testBit k = true → dtF m n f' (s + 1 - 2 ^ k) = dt m n (s + 1 - 2 ^ k)) → dtF m n (f' + 1) (s + 1) = dout m (dt m n) (s + 1) n := fun f' _ hk => by
      show (if s + 1 = 0 then _ else dout m (dtF m n f') (s + 1) n) = _
      rw [if_neg (by omega)]
      exact dout_congr hk n
    have lt : ∀ k, (s + 1).testBit k = true → s + 1 - 2 ^ k ≤ s := fun k hk => by
      have := (bit_sub k (s + 1) 0 hk).2
      have := Nat.two_pow_pos k
      omega
    rw [key f (by omega) fun k hk => dtF_more m n f _ (by have := lt k hk; omega)]
    show _ = dtF m n (s + 1) (s + 1)
    by_cases c : f = s
    · subst c
      rw [key f (Nat.le_refl _) fun k hk => dtF_more m n f _ (lt k hk)]
    · rw [key s (Nat.le_refl _) fun k hk => dtF_more m n s _ (lt k hk)]
termination_by f => f
theorem dt_zero (m : Tab) (n : Nat) : dt m n 0 = [(0, 1)] := rfl
theorem dt_eq (m : Tab) (n : Nat) {s : Nat} (h0 : s ≠ 0) : dt m n s = dout m (dt m n) s n := by
  obtain ⟨r, rfl⟩ : ∃ r, s = r + 1 := ⟨s - 1, by omega⟩
  show (if r + 1 = 0 then [(0, 1)] else dout m (dtF m n r) (r + 1) n) = _
  rw [if_neg h0]
  refine dout_congr (fun k hk => dtF_more m n r _ ?_) n
  have := (bit_sub k (r + 1) 0 hk).2
  have := Nat.two_pow_pos k
  omega

/- bounds -/
def rsz (m : Tab) (i : Nat) : Nat → Nat
  | 0 => 0
  | k + 1 => rsz m i k + size (ent m i k)
theorem rsz_mono (m : Tab) (i : Nat) {j : Nat} : ∀ {k : Nat}, j ≤ k → rsz m i j ≤ rsz m i k
  | 0, h => by rw [show j = 0 by omega]; exact Nat.le_refl _
  | k + 1, h => by
    by_cases e : j = k + 1
    · rw [e]; exact Nat.le_refl _
    · have := rsz_mono m i (j := j) (k := k) (by omega)
      rw [rsz]; omega
theorem dout_size {m : Tab} {t : Nat → List T} {s B : Nat} (h : ∀ k, s.testBit k = true → size (t (s - 2 ^ k)) ≤ B) : ∀ k, size (dout m t s k) ≤ rsz m (pp s - 1) k * B
  | 0 => by simp [dout, size]
  | k + 1 => by
    have ih := dout_size (m := m) h k
    rw [dout, size_app, rsz, Nat.add_mul]
    have : size (dterm m t s k) ≤ size (ent m (pp s - 1) k) * B := by
      unfold dterm
      split
      · rw [sc_size (sg_one _), size_mul]
        exact Nat.mul_le_mul_left _ (h k (by assumption))
      · simp [size]
    omega
theorem dt_size {m : Tab} {n S : Nat} (hn : n ≤ 12) (hS : ∀ i, i < n → rsz m i n ≤ S) : ∀ (f s : Nat), s < f → s < 2 ^ n → size (dt m n s) ≤ S ^ pp s
  | f + 1, s, hf, hs => by
    by_cases h0 : s = 0
    · subst h0
      rw [dt_zero, show pp 0 = 0 from pop_zero' 12]
      simp [size]
    · have h12 : s < 2 ^ 12 := Nat.lt_of_lt_of_le hs (Nat.pow_le_pow_right (by omega) hn)
      obtain ⟨p, hp⟩ : ∃ p, pp s = p + 1 := ⟨pp s - 1, by have := pop_pos' h12 h0; show Kn.pop 12 s = Kn.pop 12 s - 1 + 1; omega⟩
      have hpn : p < n := by
        have h1 : Kn.pop 12 s = Kn.pop n s := pop_up hs hn
        have h2 := pop_le' n s
        have h3 : Kn.pop 12 s = p + 1 := hp
        omega
      rw [dt_eq m n h0]
      refine Nat.le_trans (dout_size (B := S ^ p) (fun k hk => ?_) n) ?_
      · have h1 := (bit_sub k s 0 hk).2
        have h2 := Nat.two_pow_pos k
        have hk12 : k < 12 := by
          refine Classical.byContradiction fun c => ?_
          have := Nat.pow_le_pow_right (show 0 < 2 by omega) (show 12 ≤ k by omega)
          omega
        have h3 : pp (s - 2 ^ k) = p := by
          have := pop_sub 12 k s hk12 hk
          have h4 : Kn.pop 12 s = p + 1 := hp
          show Kn.pop 12 (s - 2 ^ k) = p
          omega
        have := dt_size hn hS f (s - 2 ^ k) (by omega) (by omega)
        rwa [h3] at this
      · rw [hp, Nat.add_sub_cancel, Nat.pow_succ, Nat.mul_comm (S ^ p)]
        exact Nat.mul_le_mul_right _ (hS p hpn)
def ExpsW (E : Int) (l : List T) : Prop := ∀ t ∈ l, -E ≤ t.1 ∧ t.1 ≤ E
theorem ExpsW.mul {E F : Int} {a b : List T} (ha : ExpsW E a) (hb : ExpsW F b) : ExpsW (E + F) (mul a b) := by
  intro t ht
  simp only [Pl.mul, List.mem_flatMap, List.mem_map] at ht
  obtain ⟨x, hx, y, hy, rfl⟩ := ht
  have h1 := ha x hx
  have h2 := hb y hy
  show -(E + F) ≤ x.1 + y.1 ∧ x.1 + y.1 ≤ E + F
  omega
theorem ExpsW.sc {E : Int} {z : Int} {l : List T} (h : ExpsW E l) : ExpsW E (sc z l) := by
  intro t ht
  obtain ⟨u, hu, rfl⟩ := List.mem_map.1 ht
  exact h u hu
theorem ExpsW.mono {E F : Int} {l : List T} (h : ExpsW E l) (k : E ≤ F) : ExpsW F l := fun t ht => by have := h t ht; omega
theorem dout_exps {m : Tab} {t : Nat → List T} {s : Nat} {E F : Int} (he : ∀ i k, ExpsW E (ent m i k)) (h : ∀ k, s.testBit k = true → ExpsW F (t (s - 2 ^ k))) : ∀ k, ExpsW (E + F) (dout m t s k)
  | 0 => fun t ht => by simp [dout] at ht
  | k + 1 => by
    intro u hu
    rw [dout] at hu
    rcases List.mem_append.1 hu with hu | hu
    · exact dout_exps he h k u hu
    · unfold dterm at hu
      split at hu
      · exact ((he _ _).mul (h k (by assumption))).sc u hu
      · simp at hu
theorem dt_exps {m : Tab} {n : Nat} {E : Int} (hE : 0 ≤ E) (hn : n ≤ 12) (he : ∀ i k, ExpsW E (ent m i k)) : ∀ (f s : Nat), s < f → s < 2 ^ n → ExpsW ((pp s : Int) * E) (dt m n s)
  | f + 1, s, hf, hs => by
    by_cases h0 : s = 0
    · subst h0
      intro t ht
      rw [dt_zero] at ht
      simp at ht
      subst ht
      have : (0 : Int) ≤ (pp 0 : Int) * E := Int.mul_nonneg (by omega) hE
      show -((pp 0 : Int) * E) ≤ 0 ∧ 0 ≤ (pp 0 : Int) * E
      omega
    · have h12 : s < 2 ^ 12 := Nat.lt_of_lt_of_le hs (Nat.pow_le_pow_right (by omega) hn)
      obtain ⟨p, hp⟩ : ∃ p, pp s = p + 1 := ⟨pp s - 1, by have := pop_pos' h12 h0; show Kn.pop 12 s = Kn.pop 12 s - 1 + 1; omega⟩
      rw [dt_eq m n h0, hp]
      have := dout_exps (m := m) (t := dt m n) (s := s) (E := E) (F := (p : Int) * E) he (fun k hk => ?_) n
      · refine this.mono ?_
        rw [show (((p + 1 : Nat) : Int)) * E = (p : Int) * E + E by rw [Int.natCast_add, Int.add_mul]; simp]
        omega
      · have h1 := (bit_sub k s 0 hk).2
        have h2 := Nat.two_pow_pos k
        have hk12 : k < 12 := by
          refine Classical.byContradiction fun c => ?_
          have := Nat.pow_le_pow_right (show 0 < 2 by omega) (show 12 ≤ k by omega)
          omega
        have h3 : pp (s - 2 ^ k) = p := by
          have := pop_sub 12 k s hk12 hk
          have h4 : Kn.pop 12 s = p + 1 := hp
          show Kn.pop 12 (s - 2 ^ k) = p
          omega
        have := dt_exps hE hn he f (s - 2 ^ k) (by omega) (by omega)
        rwa [h3] at this

/- values -/
def dn (q : Nat → Bool) : Nat → List Nat
  | 0 => []
  | k + 1 => if q k then k :: dn q k else dn q k
def hgh (q : Nat → Bool) : Nat → Nat → List Nat
  | 0, _ => []
  | d + 1, k => hgh q d (k + 1) ++ (if q k then [k] else [])
theorem dn_split (q : Nat → Bool) : ∀ d k, dn q (k + d) = hgh q d k ++ dn q k
  | 0, k => rfl
  | d + 1, k => by
    rw [show k + (d + 1) = k + 1 + d by omega, dn_split q d (k + 1), hgh, List.append_assoc, dn]
    split <;> rfl
theorem dn_congr {q r : Nat → Bool} : ∀ {k : Nat}, (∀ j, j < k → q j = r j) → dn q k = dn r k
  | 0, _ => rfl
  | k + 1, h => by rw [dn, dn, h k (by omega), dn_congr fun j hj => h j (by omega)]
theorem hgh_congr {q r : Nat → Bool} : ∀ {d k : Nat}, (∀ j, k ≤ j → q j = r j) → hgh q d k = hgh r d k
  | 0, _, _ => rfl
  | d + 1, k, h => by rw [hgh, hgh, h k (Nat.le_refl _), hgh_congr fun j hj => h j (by omega)]
theorem hgh_len {s : Nat} (h12 : s < 2 ^ 12) : ∀ (d k : Nat), s < 2 ^ (k + d) → (hgh s.testBit d k).length = pp (s >>> k)
  | 0, k, h => by
    rw [Nat.add_zero] at h
    rw [Nat.shiftRight_eq_div_pow, Nat.div_eq_of_lt h]
    exact (pop_zero' 12).symm
  | d + 1, k, h => by
    have hlt : s >>> k < 2 ^ 12 := Nat.lt_of_le_of_lt (Nat.shiftRight_le s k) h12
    rw [hgh, List.length_append, hgh_len h12 d (k + 1) (by rw [show k + 1 + d = k + (d + 1) by omega]; exact h)]
    show _ = Kn.pop 12 (s >>> k)
    rw [pop_step hlt]
    have e1 : s >>> k / 2 = s >>> (k + 1) := by rw [Nat.shiftRight_succ]
    rw [e1]
    have e2 : s >>> k % 2 = if s.testBit k = true then 1 else 0 := by
      rw [Nat.testBit, Nat.one_and_eq_mod_two]
      rcases Nat.mod_two_eq_zero_or_one (s >>> k) with h | h <;> simp [h]
    rw [e2]
    show pp (s >>> (k + 1)) + _ = _ + pp (s >>> (k + 1))
    split <;> simp <;> omega
def rowF (t : Rat) (m : Tab) (i : Nat) : Kn.Row := fun c => ev t (ent m i c)
def rowsD (t : Rat) (m : Tab) : Nat → List Kn.Row
  | 0 => []
  | p + 1 => rowF t m p :: rowsD t m p
theorem sg_succ (b : Nat) : sg (b + 1) = -sg b := by unfold sg; omega
theorem dout_ev {t : Rat} (ht : t ≠ 0) {m : Tab} {n s p : Nat} (hn : n ≤ 12) (hs : s < 2 ^ n) (hp : pp s = p + 1) (ih : ∀ k, k < n → s.testBit k = true → ev t (dt m n (s - 2 ^ k)) = Kn.Dv (rowsD t m p) (dn (s - 2 ^ k).testBit n)) :
    ∀ k, k ≤ n → ev t (dout m (dt m n) s k) = (sg (pp (s >>> k)) : Rat) * Kn.lap (rowF t m p) (fun l => Kn.D (rowsD t m p) (Kn.rd (hgh s.testBit (n - k) k) ++ l)) (Kn.rd (dn s.testBit k))
  | 0, _ => by
    show (0 : Rat) = _ * Kn.lap _ _ []
    rw [Kn.lap]; grind
  | k + 1, hk => by
    have h12 : s < 2 ^ 12 := Nat.lt_of_lt_of_le hs (Nat.pow_le_pow_right (by omega) hn)
    have i := dout_ev ht hn hs hp ih k (by omega)
    have hh : hgh s.testBit (n - k) k = hgh s.testBit (n - (k + 1)) (k + 1) ++ (if s.testBit k then [k] else []) := by
      rw [show n - k = (n - (k + 1)) + 1 by omega, hgh]
    rw [dout, ev_app, i]
    unfold dterm
    by_cases hb : s.testBit k = true
    · rw [if_pos hb, ev_sc, ev_mul ht, ih k (by omega) hb, hp, Nat.add_sub_cancel]
      rw [if_pos hb] at hh
      have l1 := hgh_len h12 (n - k) k (by rw [show k + (n - k) = n by omega]; exact hs)
      have l2 := hgh_len h12 (n - (k + 1)) (k + 1) (by rw [show k + 1 + (n - (k + 1)) = n by omega]; exact hs)
      rw [hh, List.length_append, List.length_singleton, l2] at l1
      rw [← l1, sg_succ, Rat.intCast_neg]
      have ed : dn s.testBit (k + 1) = k :: dn s.testBit k := by rw [dn, if_pos hb]
      rw [ed]
      have e2 : dn (s - 2 ^ k).testBit n = hgh s.testBit (n - (k + 1)) (k + 1) ++ dn s.testBit k := by
        have := dn_split (s - 2 ^ k).testBit (n - (k + 1)) (k + 1)
        rw [show k + 1 + (n - (k + 1)) = n by omega] at this
        rw [this]
        have b1 := bit_sub k s
        congr 1
        · exact hgh_congr fun j hj => by rw [(b1 j hb).1, decide_eq_true (by omega), Bool.and_true]
        · rw [dn, (b1 k hb).1]
          simp only [ne_eq, not_true_eq_false, decide_false, Bool.and_false, Bool.false_eq_true, if_false]
          exact dn_congr fun j hj => by rw [(b1 j hb).1, decide_eq_true (by omega), Bool.and_true]
      rw [e2, hh]
      show _ = _ * Kn.lap _ _ ((fun r : Kn.Row => r k) :: Kn.rd (dn s.testBit k))
      rw [Kn.lap]
      have e3 : Kn.Dv (rowsD t m p) (hgh s.testBit (n - (k + 1)) (k + 1) ++ dn s.testBit k) = Kn.D (rowsD t m p) (Kn.rd (hgh s.testBit (n - (k + 1)) (k + 1)) ++ Kn.rd (dn s.testBit k)) := by
        unfold Kn.Dv Kn.rd; rw [List.map_append]
      have e4 : (fun l => Kn.D (rowsD t m p) (Kn.rd (hgh s.testBit (n - (k + 1)) (k + 1) ++ [k]) ++ l)) = fun l => Kn.D (rowsD t m p) (Kn.rd (hgh s.testBit (n - (k + 1)) (k + 1)) ++ (fun r : Kn.Row => r k) :: l) := funext fun l => by
        unfold Kn.rd; rw [List.map_append, List.map_singleton, List.append_assoc, List.singleton_append]
      rw [e3, e4]
      show _ = _ * (rowF t m p k * _ - _)
      have e5 : ev t (ent m p k) = rowF t m p k := rfl
      rw [e5]
      grind
    · rw [if_neg hb]
      rw [if_neg hb, List.append_nil] at hh
      have l1 := hgh_len h12 (n - k) k (by rw [show k + (n - k) = n by omega]; exact hs)
      have l2 := hgh_len h12 (n - (k + 1)) (k + 1) (by rw [show k + 1 + (n - (k + 1)) = n by omega]; exact hs)
      rw [hh, l2] at l1
      have ed : dn s.testBit (k + 1) = dn s.testBit k := by rw [dn, if_neg hb]
      rw [hh, ← l1, ed, ev_nil]
      grind
theorem dt_ev {t : Rat} (ht : t ≠ 0) {m : Tab} {n : Nat} (hn : n ≤ 12) : ∀ (f s : Nat), s < f → s < 2 ^ n → ev t (dt m n s) = Kn.Dv (rowsD t m (pp s)) (dn s.testBit n)
  | f + 1, s, hf, hs => by
    by_cases h0 : s = 0
    · subst h0
      have : dn (Nat.testBit 0) n = [] := by
        have : ∀ k, dn (Nat.testBit 0) k = [] := by
          intro k
          induction k with
          | zero => rfl
          | succ k ih => rw [dn, Nat.zero_testBit]; exact ih
        exact this n
      rw [dt_zero, this, show pp 0 = 0 from pop_zero' 12]
      show ev t [(0, 1)] = 1
      rw [ev_cons, ev_nil]
      simp only [Rat.zpow_zero]
      have : ((1 : Int) : Rat) = 1 := rfl
      rw [this]; grind
    · have h12 : s < 2 ^ 12 := Nat.lt_of_lt_of_le hs (Nat.pow_le_pow_right (by omega) hn)
      obtain ⟨p, hp⟩ : ∃ p, pp s = p + 1 := ⟨pp s - 1, by have := pop_pos' h12 h0; show Kn.pop 12 s = Kn.pop 12 s - 1 + 1; omega⟩
      have ih : ∀ k, k < n → s.testBit k = true → ev t (dt m n (s - 2 ^ k)) = Kn.Dv (rowsD t m p) (dn (s - 2 ^ k).testBit n) := fun k hk hb => by
        have h1 := (bit_sub k s 0 hb).2
        have h2 := Nat.two_pow_pos k
        have h3 : pp (s - 2 ^ k) = p := by
          have := pop_sub 12 k s (by omega) hb
          have h4 : Kn.pop 12 s = p + 1 := hp
          show Kn.pop 12 (s - 2 ^ k) = p
          omega
        have := dt_ev (m := m) ht hn f (s - 2 ^ k) (by omega) (by omega)
        rwa [h3] at this
      rw [dt_eq m n h0, dout_ev ht hn hs hp ih n (Nat.le_refl _), hp, Nat.shiftRight_eq_div_pow, Nat.div_eq_of_lt hs, show pp 0 = 0 from pop_zero' 12, Nat.sub_self]
      have e1 : (sg 0 : Rat) = 1 := rfl
      rw [e1]
      have e2 : (fun l => Kn.D (rowsD t m p) (Kn.rd (hgh s.testBit 0 n) ++ l)) = Kn.D (rowsD t m p) := rfl
      rw [e2]
      show 1 * Kn.D (rowF t m p :: rowsD t m p) _ = Kn.D (rowsD t m (p + 1)) _
      rw [rowsD]; grind
theorem dn_all {q : Nat → Bool} : ∀ {n : Nat}, (∀ j, j < n → q j = true) → (dn q n).Perm (List.range n)
  | 0, _ => .nil
  | n + 1, h => by
    rw [dn, if_pos (h n (by omega)), List.range_succ]
    exact ((dn_all fun j hj => h j (by omega)).cons n).trans (List.perm_append_comm (l₁ := [n]))
theorem rowsD_perm (t : Rat) (m : Tab) : ∀ n, (rowsD t m n).Perm ((List.range n).map (rowF t m))
  | 0 => .nil
  | n + 1 => by
    rw [rowsD, List.range_succ, List.map_append]
    exact ((rowsD_perm t m n).cons _).trans (List.perm_append_comm (l₁ := [rowF t m n]))
theorem pop_all : ∀ n, Kn.pop n (2 ^ n - 1) = n
  | 0 => rfl
  | n + 1 => by
    have := Nat.two_pow_pos n
    have hp : 2 ^ (n + 1) = 2 * 2 ^ n := by rw [Nat.pow_succ]; omega
    rw [Kn.pop, show (2 ^ (n + 1) - 1) / 2 = 2 ^ n - 1 by omega, pop_all n]; omega
/- THE DETERMINANT, but for a sign. -/
theorem det_ev {t : Rat} (ht : t ≠ 0) {m : Tab} {n : Nat} (hn : n ≤ 12) : Kn.Eu t (ev t (dt m n (2 ^ n - 1))) (Kn.Dv ((List.range n).map (rowF t m)) (List.range n)) := by
  have h2 := Nat.two_pow_pos n
  have hs : 2 ^ n - 1 < 2 ^ n := by omega
  have hb : ∀ j, j < n → (2 ^ n - 1).testBit j = true := fun j hj => by rw [Nat.testBit_two_pow_sub_one]; exact decide_eq_true hj
  have hp : pp (2 ^ n - 1) = n := (pop_up hs hn).trans (pop_all n)
  rw [dt_ev ht hn _ _ (Nat.lt_succ_self _) hs, hp]
  obtain ⟨e, he, k⟩ := Kn.Dv_cols (dn_all hb)
  rw [k]
  exact (Kn.Eu.un (Kn.Un.sg he)).trans ht (Kn.Eu.rows (rowsD_perm t m n) _)
end Pl

/- Closed words: one link, one polynomial; plain. -/
namespace Go.Proofs.Ytcfpdeeipbekfaa.Kn
set_option linter.unusedVariables false

/-- What Alexander tells. -/
def AlexIs (X : List Cr) (L : Nat) (a : List Pl.T) : Prop := Pl.Nrm a ∧ ∀ t : Rat, t ≠ 0 → Eu t (Pl.ev t a) (alexV t X L)
/-- Polynomials in form, from 0 on. -/
theorem norm_of {m0 a : List Pl.T} {e c : Int} {r : List Pl.T} (hf : Pl.Form m0) (hm : m0 = (e, c) :: r) (h : Pl.Is a (m0.map fun u => (u.1 + -e, (if c < 0 then -1 else 1) * u.2))) :
    Pl.Nrm a ∧ Pl.size a = Pl.size m0 ∧ ∀ t : Rat, t ≠ 0 → Eu t (Pl.ev t a) (Pl.ev t m0) := by
  have hs : (if c < 0 then (-1 : Int) else 1) = 1 ∨ (if c < 0 then (-1 : Int) else 1) = -1 := by split; exact .inr rfl; exact .inl rfl
  have hform : ∀ l : List Pl.T, Pl.Form l → Pl.Form (l.map fun u => (u.1 + -e, (if c < 0 then -1 else 1) * u.2)) := by
    intro l
    induction l with
    | nil => intro _; trivial
    | cons u l ih =>
      intro hl
      refine ⟨?_, fun v hv => ?_, ih hl.2.2⟩
      · have := hl.1
        show (if c < 0 then (-1 : Int) else 1) * u.2 ≠ 0
        rcases hs with e | e <;> rw [e] <;> omega
      · obtain ⟨x, hx, rfl⟩ := List.mem_map.1 hv
        have := hl.2.1 x hx
        show u.1 + -e < x.1 + -e
        omega
  have ea : a = m0.map fun u => (u.1 + -e, (if c < 0 then -1 else 1) * u.2) := Pl.form_unique h.1 (hform m0 hf) h.2
  have hsz : ∀ l : List Pl.T, Pl.size (l.map fun u => (u.1 + -e, (if c < 0 then -1 else 1) * u.2)) = Pl.size l := by
    intro l
    induction l with
    | nil => rfl
    | cons u l ih =>
      rw [List.map_cons, Pl.size_cons, Pl.size_cons, ih]
      show ((if c < 0 then (-1 : Int) else 1) * u.2).natAbs + _ = _
      rcases hs with e | e <;> rw [e] <;> omega
  refine ⟨⟨h.1, .inr ?_⟩, by rw [ea, hsz], fun t ht => ?_⟩
  · rw [ea, hm, List.map_cons]
    refine ⟨(if c < 0 then -1 else 1) * c, _, ?_, by rw [show e + -e = 0 by omega]⟩
    have : c ≠ 0 := by rw [hm] at hf; exact hf.1
    split <;> omega
  · rw [ea, Pl.ev_sh ht]
    rcases hs with e' | e'
    · exact Eu.un ⟨1, -e, .inl rfl, by rw [e']; rfl⟩
    · exact Eu.un ⟨-1, -e, .inr rfl, by rw [e']; rfl⟩

/-- A row of the table of a diagram. -/
def entA (X : List Cr) (k c : Nat) : List Pl.T := (if overP X (aTo X k) = c then [(0, 1)] else []) ++ (if overP X (aIn X k) = c then [(1, -1)] else []) ++ (if overP X (arcN X (k, 1)) = c then [(1, 1), (0, -1)] else [])
theorem entA_ev {t : Rat} (ht : t ≠ 0) (X : List Cr) (k c : Nat) : Pl.ev t (entA X k c) = arow t X k c := by
  have e1 : ((1 : Int) : Rat) = 1 := rfl
  have e2 : ((-1 : Int) : Rat) = -1 := rfl
  unfold entA arow
  rw [Pl.ev_app, Pl.ev_app]
  by_cases c1 : overP X (aTo X k) = c <;> by_cases c2 : overP X (aIn X k) = c <;> by_cases c3 : overP X (arcN X (k, 1)) = c <;>
    simp only [c1, c2, c3, if_true, if_false, Pl.ev_cons, Pl.ev_nil, Rat.zpow_zero, Rat.zpow_one, e1, e2] <;> grind
def tabA (X : List Cr) (n m : Nat) : Pl.Tab := (List.range n).map fun k => (List.range m).map fun c => entA X k c
theorem tabA_ent {X : List Cr} {n m k c : Nat} (hk : k < n) (hc : c < m) : Pl.ent (tabA X n m) k c = entA X k c := by
  unfold Pl.ent tabA
  simp [List.getD_eq_getElem?_getD, hk, hc]
theorem tabA_out {X : List Cr} {n m k c : Nat} (h : ¬ (k < n ∧ c < m)) : Pl.ent (tabA X n m) k c = [] := by
  unfold Pl.ent tabA
  by_cases hk : k < n
  · have hc : ¬ c < m := fun hc => h ⟨hk, hc⟩
    simp [List.getD_eq_getElem?_getD, hk, hc]
  · simp [List.getD_eq_getElem?_getD, hk]
theorem entA_exps (X : List Cr) (k c : Nat) : Pl.ExpsW 1 (entA X k c) := by
  intro t ht
  unfold entA at ht
  rcases List.mem_append.1 ht with ht | ht
  · rcases List.mem_append.1 ht with ht | ht
    · split at ht
      · rw [List.mem_singleton] at ht; subst ht; decide
      · simp at ht
    · split at ht
      · rw [List.mem_singleton] at ht; subst ht; decide
      · simp at ht
  · split at ht
    · simp only [List.mem_cons, List.not_mem_nil, or_false] at ht
      rcases ht with rfl | rfl <;> decide
    · simp at ht
theorem tabA_exps (X : List Cr) (n m k c : Nat) : Pl.ExpsW 1 (Pl.ent (tabA X n m) k c) := by
  by_cases h : k < n ∧ c < m
  · rw [tabA_ent h.1 h.2]; exact entA_exps X k c
  · rw [tabA_out h]; intro t ht; simp at ht
theorem entA_size (X : List Cr) (k c : Nat) : Pl.size (entA X k c) = (if overP X (aTo X k) = c then 1 else 0) + (if overP X (aIn X k) = c then 1 else 0) + (if overP X (arcN X (k, 1)) = c then 2 else 0) := by
  unfold entA
  rw [Pl.size_app, Pl.size_app]
  congr 1
  · congr 1
    · split <;> rfl
    · split <;> rfl
  · split <;> rfl
theorem tabA_rsz (X : List Cr) (n m k : Nat) : ∀ c, Pl.rsz (tabA X n m) k c ≤ (if overP X (aTo X k) < c then 1 else 0) + (if overP X (aIn X k) < c then 1 else 0) + (if overP X (arcN X (k, 1)) < c then 2 else 0)
  | 0 => by rw [Pl.rsz]; omega
  | c + 1 => by
    have ih := tabA_rsz X n m k c
    rw [Pl.rsz]
    have h2 : Pl.size (Pl.ent (tabA X n m) k c) ≤ (if overP X (aTo X k) = c then 1 else 0) + (if overP X (aIn X k) = c then 1 else 0) + (if overP X (arcN X (k, 1)) = c then 2 else 0) := by
      by_cases h : k < n ∧ c < m
      · rw [tabA_ent h.1 h.2, entA_size]; exact Nat.le_refl _
      · rw [tabA_out h]; exact Nat.zero_le _
    have key : ∀ (x z : Nat), (if x < c then z else 0) + (if x = c then z else 0) ≤ if x < c + 1 then z else 0 := fun x z => by
      rcases Nat.lt_trichotomy x c with h | h | h
      · rw [if_pos h, if_neg (by omega), if_pos (by omega)]; exact Nat.le_refl _
      · rw [if_neg (by omega), if_pos h, if_pos (by omega), Nat.zero_add]; exact Nat.le_refl _
      · rw [if_neg (by omega), if_neg (by omega)]; exact Nat.zero_le _
    have k1 := key (overP X (aTo X k)) 1
    have k2 := key (overP X (aIn X k)) 1
    have k3 := key (overP X (arcN X (k, 1))) 2
    omega
theorem tabA_four (X : List Cr) (n m k c : Nat) : Pl.rsz (tabA X n m) k c ≤ 4 := by
  have := tabA_rsz X n m k c
  have key : ∀ (x z : Nat), (if x < c then z else 0) ≤ z := fun x z => by split <;> omega
  have k1 := key (overP X (aTo X k)) 1
  have k2 := key (overP X (aIn X k)) 1
  have k3 := key (overP X (arcN X (k, 1))) 2
  omega
/-- The determinant of a diagram's table without some rows and places. -/
theorem tabA_det {t : Rat} (ht : t ≠ 0) {X : List Cr} {n : Nat} (hn : n ≤ 12) : Eu t (Pl.ev t (Pl.dt (tabA X n n) n (2 ^ n - 1))) (Dv ((List.range n).map (arow t X)) (List.range n)) := by
  have h := Pl.det_ev ht (m := tabA X n n) hn
  have e : Dv ((List.range n).map (Pl.rowF t (tabA X n n))) (List.range n) = Dv ((List.range n).map (arow t X)) (List.range n) := by
    refine Dv_congr (by simp) fun i v hv => ?_
    have hv := List.mem_range.1 hv
    by_cases hi : i < n
    · simp only [List.getD_eq_getElem?_getD, List.getElem?_map, List.getElem?_range hi, Option.map_some, Option.getD_some]
      show Pl.ev t (Pl.ent (tabA X n n) i v) = _
      rw [tabA_ent hi hv, entA_ev ht]
    · simp [List.getD_eq_getElem?_getD, hi]
  rw [e] at h
  exact h
end Go.Proofs.Ytcfpdeeipbekfaa.Kn

/- Closed tangles, plain: the rows of the diagram at -1 tell the fraction's p. -/
namespace Go.Proofs.Ytcfpdeeipbekfaa.Kn
set_option linter.unusedVariables false

section
variable {bl ab : Nat → Bool} {n : Nat} {W : Wl} {S : List Nat}
theorem ET_len (bl ab : Nat → Bool) (n : Nat) : (ET bl ab n).length = 3 * n + 4 := by
  unfold ET
  rw [List.length_append, List.length_append, List.length_flatMap]
  have : ∀ m, ((List.range m).map fun k => (EBt bl ab k).length).sum = 3 * m := fun m => by
    induction m with
    | zero => rfl
    | succ m ih => rw [List.range_succ, List.map_append, List.sum_append_nat, ih]; simp [EBt]; omega
  rw [this]
  simp [E0t, ECt]; omega
theorem rho_at {k : Nat} (hk : k < n) : lv4 (k + 1) (oS bl ab k) ∈ VT n ∧ lv4 k (oU bl ab k) ∈ VT n ∧ lv4 k (oS bl ab k) ∈ VT n := by
  have := sl4 bl ab k
  refine ⟨VT_mem.2 ?_, VT_mem.2 ?_, VT_mem.2 ?_⟩ <;> simp only [lv4] <;> omega
theorem rhoT_sum {k : Nat} (hk : k < n) : ((VT n).map (rhoT bl ab k)).sum = 0 := by
  obtain ⟨h1, h2, h3⟩ := rho_at (bl := bl) (ab := ab) hk
  have hn := VT_nodup n
  unfold rhoT
  rw [sum_add, sum_add, sum_smul, sum_smul, unit_sum hn h1, unit_sum hn h2, unit_sum hn h3]
  grind
theorem arow_q (hn : 0 < n) (h : Dg n (TN ab (FN bl ab n)) W S) (ht : (eN bl ab n 0).c = true) {k : Nat} (hk : k < n) (c : Nat) :
    arow (-1) (diaX n W) k c = (if qT bl ab n W (lv4 (k + 1) (oS bl ab k)) = c then 1 else 0) + 1 * (if qT bl ab n W (lv4 k (oU bl ab k)) = c then 1 else 0) + -2 * (if qT bl ab n W (lv4 k (oS bl ab k)) = c then 1 else 0) := by
  obtain ⟨_, pairA⟩ := tang_quo hn h ht
  have hl := (labT_lb hn h).1
  have s4 := sl4 bl ab k
  obtain ⟨k1, k2⟩ := hl.cross (ab := ab) hk
  rw [VW_cnr, VW_cnr] at k1
  rw [VW_cnr, VW_cnr] at k2
  have hp := pairA k hk
  have hd : overP (diaX n W) (arcN (diaX n W) (k, 1)) = overP (diaX n W) (labT bl ab n W k (oS bl ab k)) := by
    rcases h.sides hk with ⟨_, _, s1, _⟩ | ⟨_, _, s1, _⟩ <;> rw [s1] <;> rcases k1 with ⟨a, _⟩ | ⟨a, _⟩ <;> rw [← a]
    · exact hp
    · exact hp.symm
  rw [qT_lv s4.2.1, qT_lv s4.2.2.1, qT_lv s4.2.2.1]
  have hab : (overP (diaX n W) (aTo (diaX n W) k) = overP (diaX n W) (labT bl ab n W (k + 1) (oS bl ab k)) ∧ overP (diaX n W) (aIn (diaX n W) k) = overP (diaX n W) (labT bl ab n W k (oU bl ab k))) ∨
      (overP (diaX n W) (aIn (diaX n W) k) = overP (diaX n W) (labT bl ab n W (k + 1) (oS bl ab k)) ∧ overP (diaX n W) (aTo (diaX n W) k) = overP (diaX n W) (labT bl ab n W k (oU bl ab k))) := by
    unfold aTo aIn
    rcases h.sides hk with ⟨s0, s2, _, _⟩ | ⟨s0, s2, _, _⟩ <;> rcases k2 with ⟨a, b⟩ | ⟨a, b⟩ <;> cases (cr (diaX n W) k).p <;> simp [s0, s2, ← a, ← b]
  unfold arow
  rw [hd]
  rcases hab with ⟨a, b⟩ | ⟨a, b⟩ <;> rw [a, b] <;> grind
theorem psh_rhoT (hn : 0 < n) (h : Dg n (TN ab (FN bl ab n)) W S) (ht : (eN bl ab n 0).c = true) {k : Nat} (hk : k < n) : psh (VT n) (qT bl ab n W) (rhoT bl ab k) = arow (-1) (diaX n W) k := by
  obtain ⟨h1, h2, h3⟩ := rho_at (bl := bl) (ab := ab) hk
  refine funext fun c => ?_
  rw [arow_q hn h ht hk c]
  exact psh_three (VT_nodup n) _ h1 h2 h3 1 (-2) c
/-- Colours, where p is 0. -/
theorem cc_tie (hP : (PQ bl ab n).1 = 0) {u v : Nat} (h : Tie (ET bl ab n) u v) : cc bl ab (u / 4) (u % 4) = cc bl ab (v / 4) (v % 4) := by
  induction h with
  | refl => rfl
  | symm _ ih => exact ih.symm
  | trans _ _ a b => exact a.trans b
  | @pair x y he =>
    have key : ∀ k j k' j', j < 4 → j' < 4 → x = lv4 k j → y = lv4 k' j' → cc bl ab k j = cc bl ab k' j' → cc bl ab (x / 4) (x % 4) = cc bl ab (y / 4) (y % 4) := fun k j k' j' hj hj' e1 e2 e => by
      subst e1 e2
      rw [(lv4_div hj).1, (lv4_div hj).2, (lv4_div hj').1, (lv4_div hj').2, e]
    unfold ET at he
    rcases List.mem_append.1 he with he | he
    · rcases List.mem_append.1 he with he | he
      · simp only [E0t, List.mem_cons, List.not_mem_nil, or_false, Prod.mk.injEq] at he
        rcases he with ⟨e1, e2⟩ | ⟨e1, e2⟩
        · exact key 0 1 0 0 (by omega) (by omega) e1 e2 rfl
        · exact key 0 3 0 2 (by omega) (by omega) e1 e2 rfl
      · obtain ⟨k, _, he⟩ := List.mem_flatMap.1 he
        simp only [EBt, List.mem_cons, List.not_mem_nil, or_false, Prod.mk.injEq] at he
        obtain ⟨c1, c2, c3, _⟩ := cc_step bl ab k
        have s4 := sl4 bl ab k
        rcases he with ⟨e1, e2⟩ | ⟨e1, e2⟩ | ⟨e1, e2⟩
        · exact key _ _ _ _ (by omega) (by omega) e1 e2 c1
        · exact key _ _ _ _ s4.1 s4.1 e1 e2 c2
        · exact key _ _ _ _ s4.2.1 s4.2.2.1 e1 e2 c3
    · simp only [ECt, List.mem_cons, List.not_mem_nil, or_false, Prod.mk.injEq] at he
      rcases he with ⟨e1, e2⟩ | ⟨e1, e2⟩
      · exact key _ _ _ _ (by omega) (by omega) e1 e2 (by show (PQ bl ab n).1 = 0; exact hP)
      · exact key _ _ _ _ (by omega) (by omega) e1 e2 (by show (PQ bl ab n).1 + (PQ bl ab n).2 = (PQ bl ab n).2; omega)
theorem sum_pick (x : Nat → Rat) (a : Nat) : ∀ m, ((List.range m).map fun c => x c * (if a = c then 1 else 0)).sum = if a < m then x a else 0
  | 0 => by simp
  | m + 1 => by
    rw [List.range_succ, List.map_append, List.sum_append, sum_pick x a m]
    simp only [List.map_cons, List.map_nil, List.sum_cons, List.sum_nil]
    by_cases c : a < m
    · rw [if_pos c, if_neg (by omega), if_pos (by omega)]; grind
    · by_cases e : a = m
      · subst e; rw [if_neg c, if_pos rfl, if_pos (by omega)]; grind
      · rw [if_neg c, if_neg e, if_neg (by omega)]; grind
theorem sum_three (x f g k : Nat → Rat) : ∀ l : List Nat, (l.map fun c => x c * (f c + 1 * g c + -2 * k c)).sum = (l.map fun c => x c * f c).sum + (l.map fun c => x c * g c).sum - 2 * (l.map fun c => x c * k c).sum
  | [] => by simp; try grind
  | c :: l => by simp only [List.map_cons, List.sum_cons, sum_three x f g k l]; grind
/-- Too many overpasses: the rows' minor is nothing. -/
theorem tang_flat {L : Nat} (h : Dg (L + 1) (TN ab (FN bl ab (L + 1))) W S) (ht : (eN bl ab (L + 1) 0).c = true) (hP : (PQ bl ab (L + 1)).1 = 0) (hm : manyP (diaX (L + 1) W) = L + 2) : Dv ((List.range (L + 1)).map (arow (-1) (diaX (L + 1) W))) (List.range (L + 1)) = 0 := by
  obtain ⟨hq, _⟩ := tang_quo (Nat.succ_pos L) h ht
  rw [hm] at hq
  obtain ⟨y, hy⟩ : ∃ y : Nat → Rat, y = fun v => (cc bl ab (v / 4) (v % 4) : Rat) := ⟨_, rfl⟩
  have ex : ∃ x : Nat → Rat, ∀ v ∈ VT (L + 1), x (qT bl ab (L + 1) W v) = y v := by
    classical
    refine ⟨fun c => if k : ∃ v ∈ VT (L + 1), qT bl ab (L + 1) W v = c then y (Classical.choose k) else 0, fun v hv => ?_⟩
    have k : ∃ u ∈ VT (L + 1), qT bl ab (L + 1) W u = qT bl ab (L + 1) W v := ⟨v, hv, rfl⟩
    simp only
    rw [dif_pos k]
    obtain ⟨k1, k2⟩ := Classical.choose_spec k
    rw [hy]
    simp only
    rw [cc_tie hP (hq.ker _ k1 _ hv k2)]
  obtain ⟨x, hx⟩ := ex
  have m1 : lv4 0 0 ∈ VT (L + 1) := VT_mem.2 (by simp only [lv4]; omega)
  have m2 : lv4 0 2 ∈ VT (L + 1) := VT_mem.2 (by simp only [lv4]; omega)
  have x1 := hx _ m1
  have x2 := hx _ m2
  have y1 : y (lv4 0 0) = 0 := by rw [hy]; rfl
  have y2 : y (lv4 0 2) = 1 := by rw [hy]; rfl
  rw [y1] at x1
  rw [y2] at x2
  have l1 := List.mem_range.1 (hq.into _ m1)
  have l2 := List.mem_range.1 (hq.into _ m2)
  obtain ⟨v0, hv0, hne⟩ : ∃ v0, v0 < L + 2 ∧ x v0 - x (L + 1) ≠ 0 := by
    by_cases c : x (L + 1) = 0
    · exact ⟨_, l2, by rw [x2, c]; grind⟩
    · exact ⟨_, l1, by rw [x1]; grind⟩
  have hv1 : v0 < L + 1 := by
    rcases Nat.lt_or_ge v0 (L + 1) with k | k
    · exact k
    · have : v0 = L + 1 := by omega
      rw [this] at hne
      exact absurd (by grind) hne
  refine Dv_ker (x := fun c => x c - x (L + 1)) (List.mem_range.2 hv1) hne fun r hr => ?_
  obtain ⟨k, hk, rfl⟩ := List.mem_map.1 hr
  have hk := List.mem_range.1 hk
  obtain ⟨h1, h2, h3⟩ := rho_at (bl := bl) (ab := ab) hk
  have full : ((List.range (L + 2)).map fun c => (x c - x (L + 1)) * arow (-1) (diaX (L + 1) W) k c).sum = 0 := by
    simp only [arow_q (Nat.succ_pos L) h ht hk]
    rw [sum_three (fun c => x c - x (L + 1))]
    rw [sum_pick (fun c => x c - x (L + 1)), sum_pick (fun c => x c - x (L + 1)), sum_pick (fun c => x c - x (L + 1))]
    rw [if_pos (List.mem_range.1 (hq.into _ h1)), if_pos (List.mem_range.1 (hq.into _ h2)), if_pos (List.mem_range.1 (hq.into _ h3)), hx _ h1, hx _ h2, hx _ h3]
    have s4 := sl4 bl ab k
    have c4 := (cc_step bl ab k).2.2.2
    rw [hy]
    simp only
    rw [(lv4_div s4.2.1).1, (lv4_div s4.2.1).2, (lv4_div s4.2.2.1).1, (lv4_div s4.2.2.1).2, (lv4_div s4.2.2.1).1, (lv4_div s4.2.2.1).2]
    have c5 : ((cc bl ab (k + 1) (oS bl ab k) + cc bl ab k (oU bl ab k) - 2 * cc bl ab k (oS bl ab k) : Int) : Rat) = 0 := by rw [c4]; rfl
    rw [Rat.intCast_sub, Rat.intCast_add, Rat.intCast_mul] at c5
    have : ((2 : Int) : Rat) = 2 := rfl
    rw [this] at c5
    grind
  rw [List.range_succ, List.map_append, List.sum_append] at full
  simp only [List.map_cons, List.map_nil, List.sum_cons, List.sum_nil] at full
  grind
theorem notop_P (bl ab : Nat → Bool) : ∀ n, (eN bl ab n 1).c = false → (PQ bl ab n).1 = 0
  | 0, _ => rfl
  | n + 1, h => by
    have hT := TI.all bl ab n
    have : bl n = true ∧ (eN bl ab n 1).c = false := by
      cases hT.step with
      | a h0 h3 hf he =>
        rw [he, if_neg (by omega)] at h
        by_cases c : 1 = old0 (bl n)
        · rw [if_pos c] at h; cases h
        · rw [if_neg c] at h
          refine ⟨?_, h⟩
          cases hb : bl n with
          | true => rfl
          | false => rw [hb] at c; exact absurd rfl c
      | b hb h1 h3 hf he => rw [he] at h; cases h
      | c hb h0 hf he => rw [he] at h; cases h
      | d hb h0 hf he => rw [he] at h; exact ⟨hb, h⟩
    have ih := notop_P bl ab n this.2
    show (if bl n then _ else _ : Int × Int).1 = 0
    rw [if_pos this.1]
    split <;> exact ih
/-- THE ROWS OF A CLOSED TANGLE'S DIAGRAM, at -1, tell p. -/
theorem tang_alex {L : Nat} (h : Dg (L + 1) (TN ab (FN bl ab (L + 1))) W S) : Eu (-1) (alexV (-1) (diaX (L + 1) W) (if (eN bl ab (L + 1) 0).c then 0 else 1)) ((PQ bl ab (L + 1)).1 : Rat) := by
  have t0 : (-1 : Rat) ≠ 0 := by decide
  have hlen : (diaX (L + 1) W).length = L + 1 := diaX_len _ _
  cases ht : (eN bl ab (L + 1) 0).c with
  | false =>
    have h1 : (eN bl ab (L + 1) 1).c = false := by
      rcases (TI.all bl ab (L + 1)).top with ⟨_, k, _⟩ | ⟨k, _⟩
      · exact k
      · rw [ht] at k; cases k
    have hv : alexV (-1) (diaX (L + 1) W) (if false = true then 0 else 1) = 0 := by
      unfold alexV
      rw [hlen, if_neg (by omega), if_pos (by decide)]
    rw [hv, notop_P bl ab _ h1]
    exact .refl _ _
  | true =>
    have hq : Quo (VT (L + 1)) (ET bl ab (L + 1)) (qT bl ab (L + 1) W) (List.range (manyP (diaX (L + 1) W))) := (tang_quo (Nat.succ_pos L) h ht).1
    have hd := tang_det (bl := bl) (ab := ab) L
    obtain ⟨d1, d2⟩ := Dv_merge hq
    have hE := ET_len bl ab (L + 1)
    have hV : (VT (L + 1)).length = 4 * (L + 1) + 4 := by unfold VT; rw [List.length_range]; omega
    have hn := VT_nodup (L + 1)
    unfold alexV
    rw [hlen, if_neg (by omega), if_neg (by decide)]
    by_cases c : manyP (diaX (L + 1) W) = L + 1
    · rw [if_pos c]
      rw [c] at hq d1 d2
      obtain ⟨v, hv, hqv⟩ := hq.onto L (List.mem_range.2 (by omega))
      obtain ⟨e, he, k⟩ := d1 (by rw [hV, hE, List.length_range]; omega)
      have hs : ∀ r ∈ (ET bl ab (L + 1)).map eqr ++ (List.range L).map (rhoT bl ab), ((VT (L + 1)).map r).sum = 0 := by
        intro r hr
        rcases List.mem_append.1 hr with hr | hr
        · obtain ⟨e, he, rfl⟩ := List.mem_map.1 hr
          exact eqr_sum hn (hq.ends e he).1 (hq.ends e he).2
        · obtain ⟨k, hk, rfl⟩ := List.mem_map.1 hr
          have := List.mem_range.1 hk
          exact rhoT_sum (by omega)
      have pm : ∀ r, ((ET bl ab (L + 1)).map eqr ++ r :: (List.range L).map (rhoT bl ab)).Perm (r :: ((ET bl ab (L + 1)).map eqr ++ (List.range L).map (rhoT bl ab))) := fun r => List.perm_middle
      have hnorm := Dv_norm hs (u := unit (lv4 0 2)) (w := unit v) (by rw [unit_sum hn (VT_mem.2 (by simp only [lv4]; omega)), unit_sum hn hv])
      have e1 := (Eu.rows (t := -1) (pm (unit (lv4 0 2))) (VT (L + 1)))
      rw [hnorm] at e1
      have e2 := (e1.trans t0 ((Eu.rows (pm (unit v)) _).symm t0))
      rw [k (unit v :: (List.range L).map (rhoT bl ab))] at e2
      have e3 := e2.trans t0 (Eu.un (Un.sg he))
      rw [List.map_cons, List.map_map, show psh (VT (L + 1)) (qT bl ab (L + 1) W) (unit v) = unit L from funext fun c => by
        rw [unit_sum_filter hn hv, hqv]
        unfold unit
        by_cases e : L = c
        · rw [if_pos e, if_pos e.symm]
        · rw [if_neg e, if_neg fun k => e k.symm], show (List.range L).map (psh (VT (L + 1)) (qT bl ab (L + 1) W) ∘ rhoT bl ab) = (List.range L).map (arow (-1) (diaX (L + 1) W)) from List.map_congr_left fun k hk => by
          have := List.mem_range.1 hk
          exact psh_rhoT (Nat.succ_pos L) h ht (by omega)] at e3
      have e4 := e3.trans t0 (Dv_last _)
      exact (e4.symm t0).trans t0 hd
    · rw [if_neg c]
      have h3 := d2 (by rw [hV, hE, List.length_range]; omega) (unit (lv4 0 2) :: (List.range L).map (rhoT bl ab))
      rw [h3] at hd
      have hz : ((PQ bl ab (L + 1)).1 : Rat) = 0 := (hd.symm t0).zero
      have hP : (PQ bl ab (L + 1)).1 = 0 := by rw [Rat.intCast_eq_zero_iff] at hz; exact hz
      rw [hz]
      by_cases c2 : manyP (diaX (L + 1) W) = L + 1 + 1
      · rw [if_pos c2, tang_flat h ht hP c2]; exact .refl _ _
      · rw [if_neg c2]; exact .refl _ _
/-- THE DETERMINANT OF A CLOSED TANGLE IS THE SIZE OF p. -/
theorem tang_ev {L : Nat} (h : Dg (L + 1) (TN ab (FN bl ab (L + 1))) W S) {a : List Pl.T} (ha : AlexIs (diaX (L + 1) W) (if (eN bl ab (L + 1) 0).c then 0 else 1) a) : Pl.ev (-1) a = ((PQ bl ab (L + 1)).1 : Rat) ∨ Pl.ev (-1) a = -((PQ bl ab (L + 1)).1 : Rat) := by
  have t0 : (-1 : Rat) ≠ 0 := by decide
  obtain ⟨c, ⟨e, m, he, rfl⟩, k⟩ := (ha.2 (-1) t0).trans t0 (tang_alex h)
  have hm : ((-1 : Rat) ^ m = 1) ∨ ((-1 : Rat) ^ m = -1) := by
    have hnat : ∀ j : Nat, ((-1 : Rat) ^ j = 1) ∨ ((-1 : Rat) ^ j = -1) := fun j => by
      induction j with
      | zero => exact .inl (by simp)
      | succ j ih =>
        rw [Rat.pow_succ]
        rcases ih with e | e <;> rw [e]
        · exact .inr (by grind)
        · exact .inl (by grind)
    cases m with
    | ofNat j => rw [show (Int.ofNat j) = (j : Int) from rfl, Rat.zpow_natCast]; exact hnat j
    | negSucc j =>
      have h1 : (-1 : Rat) ^ (Int.negSucc j) * (-1 : Rat) ^ ((j : Int) + 1) = 1 := by
        rw [← Rat.zpow_add t0, show Int.negSucc j + ((j : Int) + 1) = 0 by omega]; exact Rat.zpow_zero _
      have h2 := hnat (j + 1)
      rw [← Rat.zpow_natCast, show ((j + 1 : Nat) : Int) = (j : Int) + 1 by omega] at h2
      rcases h2 with e | e <;> rw [e] at h1
      · exact .inl (by grind)
      · exact .inr (by grind)
  rw [k]
  rcases he with rfl | rfl <;> rcases hm with e | e <;> rw [e]
  · exact .inl (by grind)
  · exact .inr (by grind)
  · exact .inr (by grind)
  · exact .inl (by grind)
end
end Go.Proofs.Ytcfpdeeipbekfaa.Kn

/- Lists of twists, plain: the link of a list, and its fraction. -/
namespace Go.Proofs.Ytcfpdeeipbekfaa.Kn
set_option linter.unusedVariables false

def twI (b a : Bool) (t : Tg) : Nat → Tg
  | 0 => t
  | k + 1 => (twI b a t k).twist b a
def linkI : List Int → Nat → Tg → Tg
  | [], _, t => t
  | a :: l, i, t => linkI l (i + 1) (twI (i % 2 == 1) (decide (0 < a)) t a.natAbs)
def absL (l : List Int) : Nat := (l.map Int.natAbs).sum
/-- All twists in order: below or not, above or not. -/
def spots : List Int → Nat → List (Bool × Bool)
  | [], _ => []
  | a :: l, i => List.replicate a.natAbs (i % 2 == 1, decide (0 < a)) ++ spots l (i + 1)
def blS (s : List (Bool × Bool)) (k : Nat) : Bool := (s.getD k (false, false)).1
def abS (s : List (Bool × Bool)) (k : Nat) : Bool := (s.getD k (false, false)).2
theorem spots_len : ∀ (l : List Int) (i : Nat), (spots l i).length = absL l
  | [], _ => rfl
  | a :: l, i => by
    rw [spots, List.length_append, List.length_replicate, spots_len l (i + 1)]
    simp [absL]
theorem twI_fold (b a : Bool) (t : Tg) : ∀ n, twI b a t n = (List.replicate n (b, a)).foldl (fun t x => t.twist x.1 x.2) t
  | 0 => rfl
  | n + 1 => by rw [List.replicate_succ', List.foldl_append, ← twI_fold b a t n]; rfl
theorem linkI_fold : ∀ (l : List Int) (i : Nat) (t : Tg), linkI l i t = (spots l i).foldl (fun t x => t.twist x.1 x.2) t
  | [], _, _ => rfl
  | a :: l, i, t => by rw [linkI, spots, List.foldl_append, ← twI_fold, linkI_fold l (i + 1)]
theorem fold_run (s : List (Bool × Bool)) : ∀ k, k ≤ s.length → (s.take k).foldl (fun t x => t.twist x.1 x.2) Tg.first = runN (blS s) (abS s) k
  | 0, _ => by simp [runN]
  | k + 1, h => by
    rw [List.take_add_one, List.foldl_append, fold_run s k (by omega), List.getElem?_eq_getElem (by omega)]
    have e : s.getD k (false, false) = s[k] := by rw [List.getD_eq_getElem?_getD, List.getElem?_eq_getElem (by omega)]; rfl
    show (runN (blS s) (abS s) k).twist s[k].1 s[k].2 = (runN (blS s) (abS s) k).twist (blS s k) (abS s k)
    unfold blS abS
    rw [e]
theorem linkI_run (l : List Int) : linkI l 0 Tg.first = runN (blS (spots l 0)) (abS (spots l 0)) (absL l) := by
  rw [linkI_fold, ← spots_len l 0, ← fold_run _ _ (Nat.le_refl _), List.take_length]
/-- The same for fractions. -/
def pqS (x : Int × Int) (t : Bool × Bool) : Int × Int :=
  if t.1 then (if t.2 then (x.1, x.2 + x.1) else (x.1, x.2 - x.1)) else (if t.2 then (x.1 + x.2, x.2) else (x.1 - x.2, x.2))
theorem fold_PQ (s : List (Bool × Bool)) : ∀ k, k ≤ s.length → (s.take k).foldl pqS (0, 1) = PQ (blS s) (abS s) k
  | 0, _ => by simp [PQ]
  | k + 1, h => by
    rw [List.take_add_one, List.foldl_append, fold_PQ s k (by omega), List.getElem?_eq_getElem (by omega)]
    have e : s.getD k (false, false) = s[k] := by rw [List.getD_eq_getElem?_getD, List.getElem?_eq_getElem (by omega)]; rfl
    have e1 : blS s k = s[k].1 := by unfold blS; rw [e]
    have e2 : abS s k = s[k].2 := by unfold abS; rw [e]
    show pqS (PQ (blS s) (abS s) k) s[k] = PQ (blS s) (abS s) (k + 1)
    rw [show PQ (blS s) (abS s) (k + 1) = pqS (PQ (blS s) (abS s) k) (blS s k, abS s k) from rfl, e1, e2]
def pqI : List Int → Nat → Int × Int → Int × Int
  | [], _, x => x
  | a :: l, i, x => pqI l (i + 1) (if i % 2 = 1 then (x.1, x.2 + a * x.1) else (x.1 + a * x.2, x.2))
theorem rep_pq (b a : Bool) (x : Int × Int) : ∀ n : Nat, (List.replicate n (b, a)).foldl pqS x = if b then (x.1, x.2 + (if a then 1 else -1) * (n : Int) * x.1) else (x.1 + (if a then 1 else -1) * (n : Int) * x.2, x.2)
  | 0 => by cases b <;> simp
  | n + 1 => by
    rw [List.replicate_succ', List.foldl_append, rep_pq b a x n]
    cases b <;> cases a <;> simp [pqS] <;> grind
theorem pqI_fold : ∀ (l : List Int) (i : Nat) (x : Int × Int), pqI l i x = (spots l i).foldl pqS x
  | [], _, _ => rfl
  | a :: l, i, x => by
    rw [pqI, spots, List.foldl_append, rep_pq, pqI_fold l (i + 1)]
    congr 1
    have hs : (if decide (0 < a) then (1 : Int) else -1) * (a.natAbs : Int) = a := by
      by_cases c : 0 < a
      · rw [if_pos (by simpa using c)]; omega
      · rw [if_neg (by simpa using c)]; omega
    rw [hs]
    by_cases c : i % 2 = 1
    · rw [if_pos c, if_pos (by simpa using c)]
    · rw [if_neg c, if_neg (by simpa using c)]
theorem pqI_PQ (l : List Int) : pqI l 0 (0, 1) = PQ (blS (spots l 0)) (abS (spots l 0)) (absL l) := by
  rw [pqI_fold, ← spots_len l 0, ← fold_PQ _ _ (Nat.le_refl _), List.take_length]
/-- Lowest terms, as the program has them. -/
def lowI (p q : Int) : Int × Int :=
  if q = 0 then (1, 0) else if q < 0 then (p.tdiv (-(Int.gcd p q : Int)), q.tdiv (-(Int.gcd p q : Int))) else (p.tdiv (Int.gcd p q), q.tdiv (Int.gcd p q))
def frS (a : Int) (x : Int × Int) : Int × Int := let y := lowI x.2 x.1; if y.2 = 0 then y else lowI (y.1 + a * y.2) y.2
def frI : List Int → Int × Int → Int × Int
  | [], x => x
  | a :: l, x => frI l (frS a x)
/-- One up to a sign, that makes q not negative. -/
def Sm (x y : Int × Int) : Prop := (x = y ∨ x = (-y.1, -y.2)) ∧ 0 ≤ x.2
theorem lowI_is {p q : Int} (h : Int.gcd p q = 1) : Sm (lowI p q) (p, q) := by
  unfold lowI Sm
  by_cases c : q = 0
  · subst c
    rw [if_pos rfl]
    have : p.natAbs = 1 := by simpa using h
    refine ⟨?_, by decide⟩
    rcases (show p = 1 ∨ p = -1 by omega) with e | e
    · exact .inl (by rw [e])
    · exact .inr (by rw [e]; rfl)
  · rw [if_neg c, h]
    by_cases d : q < 0
    · rw [if_pos d]
      have e1 : ∀ x : Int, x.tdiv (-((1 : Nat) : Int)) = -x := fun x => by rw [Int.tdiv_neg]; simp
      rw [e1, e1]
      exact ⟨.inr rfl, by show 0 ≤ -q; omega⟩
    · rw [if_neg d]
      have e1 : ∀ x : Int, x.tdiv ((1 : Nat) : Int) = x := fun x => by simp
      rw [e1, e1]
      exact ⟨.inl rfl, by show 0 ≤ q; omega⟩
theorem gcd_sm {p q a b : Int} (h : Int.gcd a b = 1) (e : (p, q) = (a, b) ∨ (p, q) = (-a, -b)) : Int.gcd p q = 1 := by
  rcases e with e | e <;> obtain ⟨rfl, rfl⟩ := Prod.mk.inj e
  · exact h
  · rw [Int.gcd_neg, Int.neg_gcd]; exact h
theorem gcd_swap {a b : Int} (h : Int.gcd a b = 1) : Int.gcd b a = 1 := by rw [Int.gcd_comm]; exact h
theorem gcd_add {p q : Int} (h : Int.gcd p q = 1) (a : Int) : Int.gcd (p + a * q) q = 1 := by
  rw [Int.gcd_add_mul_right_left]; exact h
/-- One entry: over it, and more. -/
theorem frS_is {x : Int × Int} {P Q a : Int} (hg : Int.gcd P Q = 1) (hx : x = (Q, P) ∨ x = (-Q, -P)) : Sm (frS a x) (P + a * Q, Q) := by
  have h1 : Int.gcd x.2 x.1 = 1 := by
    refine gcd_sm hg ?_
    rcases hx with rfl | rfl
    · exact .inl rfl
    · exact .inr rfl
  obtain ⟨k1, k2⟩ := lowI_is h1
  have k3 : lowI x.2 x.1 = (P, Q) ∨ lowI x.2 x.1 = (-P, -Q) := by
    rcases hx with rfl | rfl
    · exact k1
    · rcases k1 with k | k
      · exact .inr k
      · exact .inl (by rw [k]; simp)
  unfold frS
  simp only
  by_cases c : (lowI x.2 x.1).2 = 0
  · rw [if_pos c]
    refine ⟨?_, k2⟩
    rcases k3 with k | k <;> rw [k] at c ⊢
    · have c : Q = 0 := c
      exact .inl (by rw [c]; simp)
    · have c : Q = 0 := by have c : -Q = 0 := c; omega
      exact .inr (by rw [c]; simp)
  · rw [if_neg c]
    have hg' := gcd_add hg a
    rcases k3 with k | k <;> rw [k]
    · exact lowI_is hg'
    · have e : (-P + a * -Q, -Q) = (-(P + a * Q), -Q) := by rw [Int.mul_neg]; congr 1; omega
      have e1 : -P + a * -Q = -(P + a * Q) := (Prod.mk.inj e).1
      show Sm (lowI (-P + a * -Q) (-Q)) _
      rw [e1]
      obtain ⟨m1, m2⟩ := lowI_is (gcd_sm hg' (.inr rfl) : Int.gcd (-(P + a * Q)) (-Q) = 1)
      refine ⟨?_, m2⟩
      rcases m1 with m | m
      · exact .inr m
      · exact .inl (by rw [m]; simp)
theorem gcd_step {P Q : Int} (hg : Int.gcd P Q = 1) (a : Int) : Int.gcd (P + a * Q) Q = 1 ∧ Int.gcd P (Q + a * P) = 1 :=
  ⟨gcd_add hg a, gcd_swap (gcd_add (gcd_swap hg) a)⟩
theorem frI_is : ∀ (l : List Int) (i : Nat) (x y : Int × Int), Int.gcd y.1 y.2 = 1 → (if i % 2 = 0 then x = (y.2, y.1) ∨ x = (-y.2, -y.1) else x = y ∨ x = (-y.1, -y.2)) → 0 ≤ x.2 →
    Int.gcd (pqI l i y).1 (pqI l i y).2 = 1 ∧ (if (i + l.length) % 2 = 0 then frI l x = ((pqI l i y).2, (pqI l i y).1) ∨ frI l x = (-(pqI l i y).2, -(pqI l i y).1) else frI l x = pqI l i y ∨ frI l x = (-(pqI l i y).1, -(pqI l i y).2)) ∧ 0 ≤ (frI l x).2
  | [], i, x, y, hg, hx, h0 => ⟨hg, hx, h0⟩
  | a :: l, i, x, y, hg, hx, h0 => by
    obtain ⟨P, Q⟩ := y
    have hg : Int.gcd P Q = 1 := hg
    rw [pqI, frI, List.length_cons, show i + (l.length + 1) = i + 1 + l.length by omega]
    by_cases c : i % 2 = 0
    · rw [if_pos c] at hx
      rw [if_neg (by omega)]
      obtain ⟨k1, k2⟩ := frS_is (a := a) hg hx
      refine frI_is l (i + 1) _ _ (gcd_step hg a).1 ?_ k2
      rw [if_neg (by omega)]
      exact k1
    · rw [if_neg c] at hx
      rw [if_pos (by omega)]
      obtain ⟨k1, k2⟩ := frS_is (a := a) (P := Q) (Q := P) (gcd_swap hg) hx
      refine frI_is l (i + 1) _ _ (gcd_step hg a).2 ?_ k2
      rw [if_pos (by omega)]
      exact k1
/-- THE FRACTION OF A LIST. -/
theorem frI_PQ {l : List Int} (hl : l.length % 2 = 1) : ((frI l (1, 0)).1 = (pqI l 0 (0, 1)).1 ∨ (frI l (1, 0)).1 = -(pqI l 0 (0, 1)).1) ∧ 0 ≤ (frI l (1, 0)).2 := by
  obtain ⟨_, h, h0⟩ := frI_is l 0 (1, 0) (0, 1) (by decide) (by rw [if_pos rfl]; exact .inl rfl) (by decide)
  rw [if_neg (by omega)] at h
  refine ⟨?_, h0⟩
  rcases h with h | h <;> rw [h]
  · exact .inl rfl
  · exact .inr rfl
theorem link_none : (closeT Tg.first).diagramC = some ([], 2) := by decide +kernel
/-- THE LINK OF A LIST. -/
theorem link_law {l : List Int} (hs : absL l ≤ 20) : ∃ X L, (closeT (linkI l 0 Tg.first)).diagramC = some (X, L) ∧ X.length = absL l ∧ L ≤ 2 ∧ Ok X ∧ planarB X = true ∧
    ((strandsL X).length + L = if (pqI l 0 (0, 1)).1 % 2 = 0 then 2 else 1) ∧ ∀ a, AlexIs X L a → Pl.ev (-1) a = ((pqI l 0 (0, 1)).1 : Rat) ∨ Pl.ev (-1) a = -((pqI l 0 (0, 1)).1 : Rat) := by
  rw [linkI_run, pqI_PQ]
  generalize blS (spots l 0) = bl
  generalize abS (spots l 0) = ab
  revert hs
  generalize absL l = n
  intro hs
  rcases n with _ | n
  · refine ⟨[], 2, link_none, rfl, Nat.le_refl _, ?_, by decide +kernel, ?_, fun a ha => ?_⟩
    · exact (ok_iff []).1 (by decide +kernel)
    · show (strandsL []).length + 2 = if ((0 : Int) % 2 = 0) then 2 else 1
      decide +kernel
    · have h1 := ha.2 (-1) (by decide)
      have : alexV (-1) [] 2 = 0 := by unfold alexV; rw [if_pos (show ([] : List Cr).length = 0 from rfl), if_neg (by decide)]
      rw [this] at h1
      exact .inl (by rw [h1.zero]; rfl)
  · have hP := close_plc bl ab (Nat.succ_pos n) hs
    obtain ⟨W, S, h1, h2⟩ := hP.diagram
    have hC := close_ct bl ab (Nat.succ_pos n)
    have hl := (close_is bl ab (Nat.succ_pos n)).2.2.1
    refine ⟨diaX (n + 1) W, (closeT (runN bl ab (n + 1))).loops, h1, diaX_len _ _, ?_, h2.ok hC.mch, dia_planar (Nat.succ_pos n) h2, ?_, fun a ha => ?_⟩
    · rw [hl]; split <;> omega
    · rw [hl, dia_parts (Nat.succ_pos n) h2]
      have := (poN_PQ bl ab (n + 1)).1
      by_cases c : (poN bl (n + 1)).1 = true
      · have d := this.1 c
        rw [if_pos c, if_neg (by omega)]
      · have d : ¬ (PQ bl ab (n + 1)).1 % 2 = 1 := fun k => c (this.2 k)
        rw [if_neg c, if_pos (by omega)]
    · rw [hl] at ha
      exact tang_ev h2 ha
end Go.Proofs.Ytcfpdeeipbekfaa.Kn

/- What a fraction is expanded to, plain. -/
namespace Go.Proofs.Ytcfpdeeipbekfaa.Kn
set_option linter.unusedVariables false

/-- The fraction that a list is expanded from. -/
def cf : List Nat → Nat × Nat
  | [] => (1, 0)
  | c :: m => (c * (cf m).1 + (cf m).2, (cf m).1)
theorem cf_pos : ∀ {l : List Nat}, (∀ c ∈ l, 1 ≤ c) → 1 ≤ (cf l).1 ∧ (l ≠ [] → 1 ≤ (cf l).2)
  | [], _ => ⟨Nat.le_refl _, fun h => absurd rfl h⟩
  | c :: m, h => by
    have ih := (cf_pos (l := m) fun x hx => h x (List.mem_cons_of_mem _ hx)).1
    have h1 := h c List.mem_cons_self
    have : 1 ≤ c * (cf m).1 := Nat.mul_pos h1 ih
    exact ⟨by show 1 ≤ c * (cf m).1 + (cf m).2; omega, fun _ => ih⟩
theorem cf_sum : ∀ {l : List Nat}, (∀ c ∈ l, 1 ≤ c) → l.sum ≤ (cf l).1
  | [], _ => Nat.zero_le _
  | c :: m, h => by
    have hm : ∀ x ∈ m, 1 ≤ x := fun x hx => h x (List.mem_cons_of_mem _ hx)
    have ih := cf_sum hm
    obtain ⟨p1, p2⟩ := cf_pos hm
    have h1 := h c List.mem_cons_self
    show (c :: m).sum ≤ c * (cf m).1 + (cf m).2
    rw [List.sum_cons]
    by_cases e : m = []
    · subst e; simp [cf]
    · have := p2 e
      obtain ⟨d, hd⟩ : ∃ d, c = d + 1 := ⟨c - 1, by omega⟩
      obtain ⟨a, ha⟩ : ∃ a, (cf m).1 = a + 1 := ⟨(cf m).1 - 1, by omega⟩
      rw [hd, ha]
      rw [ha] at ih
      have : (d + 1) * (a + 1) = d * a + d + a + 1 := by grind
      have : 0 ≤ d * a := Nat.zero_le _
      omega
theorem cf_last : ∀ (m : List Nat) (c : Nat), 1 ≤ c → cf (m ++ [c - 1, 1]) = cf (m ++ [c])
  | [], c, h => by
    show ((c - 1) * (1 * 1 + 0) + 1, 1 * 1 + 0) = (c * 1 + 0, 1)
    rw [Prod.mk.injEq]; constructor <;> omega
  | x :: m, c, h => by
    rw [List.cons_append, List.cons_append, cf, cf, cf_last m c h]
theorem cf_fold (l : List Nat) : l.reverse.foldl (fun (x : Nat × Nat) c => (c * x.1 + x.2, x.1)) (1, 0) = cf l := by
  rw [List.foldl_reverse]
  induction l with
  | nil => rfl
  | cons c l ih => rw [List.foldr_cons, ih]; rfl
theorem expandF_is : ∀ (f p q : Nat), q < f → 1 ≤ q → q ≤ p → Nat.gcd p q = 1 → (∀ c ∈ expandF f p q, 1 ≤ c) ∧ cf (expandF f p q) = (p, q) ∧ expandF f p q ≠ [] ∧ (q < p → 2 ≤ (expandF f p q).getLastD 0)
  | 0, p, q, h, _, _, _ => by omega
  | f + 1, p, q, h, h1, hqp, hg => by
    have e : expandF (f + 1) p q = p / q :: expandF f q (p % q) := by rw [expandF, if_neg (by omega)]
    have hd : 1 ≤ p / q := Nat.div_pos hqp h1
    have hm := Nat.mod_lt p h1
    have hdm := Nat.div_add_mod p q
    rw [e]
    by_cases c : p % q = 0
    · have e2 : expandF f q (p % q) = [] := by
        cases f with
        | zero => rfl
        | succ f => rw [expandF, if_pos c]
      have q1 : q = 1 := by
        have : q ∣ Nat.gcd p q := Nat.dvd_gcd (Nat.dvd_of_mod_eq_zero c) (Nat.dvd_refl q)
        rw [hg] at this
        exact Nat.dvd_one.1 this
      rw [e2]
      subst q1
      refine ⟨fun x hx => ?_, ?_, by simp, fun h => ?_⟩
      · simp at hx; omega
      · simp [cf]
      · simp; omega
    · have hg' : Nat.gcd q (p % q) = 1 := by rw [Nat.gcd_comm, ← Nat.gcd_rec, Nat.gcd_comm]; exact hg
      obtain ⟨i1, i2, i3, i4⟩ := expandF_is f q (p % q) (by omega) (by omega) (by omega) hg'
      refine ⟨fun x hx => ?_, ?_, by simp, fun _ => ?_⟩
      · rcases List.mem_cons.1 hx with rfl | hx
        · exact hd
        · exact i1 x hx
      · rw [cf, i2]
        show (p / q * q + p % q, q) = _
        rw [Nat.mul_comm]; rw [hdm]
      · have := i4 hm
        rcases hl : expandF f q (p % q) with _ | ⟨y, m⟩
        · exact absurd hl i3
        · rw [hl] at this
          simpa using this
/-- WHAT A FRACTION IS EXPANDED TO HAS THE FRACTION. -/
theorem expand_law {p q : Nat} (h : (p = 1 ∧ q = 1) ∨ (1 ≤ q ∧ q < p ∧ Nat.gcd p q = 1)) :
    (expandL p q).length % 2 = 1 ∧ (∀ c ∈ expandL p q, 1 ≤ c) ∧ (expandL p q).foldl (fun (x : Nat × Nat) c => (c * x.1 + x.2, x.1)) (1, 0) = (p, q) ∧ (expandL p q).sum ≤ p := by
  rcases h with ⟨rfl, rfl⟩ | ⟨h1, h2, h3⟩
  · decide +kernel
  · obtain ⟨i1, i2, i3, i4⟩ := expandF_is (q + 1) p q (by omega) h1 (by omega) h3
    have i4 := i4 h2
    unfold expandL
    simp only
    generalize expandF (q + 1) p q = l at *
    have key : ∃ m : List Nat, (if l.length % 2 = 0 then l.dropLast ++ [l.getLastD 0 - 1, 1] else l) = m ∧ m.length % 2 = 1 ∧ (∀ c ∈ m, 1 ≤ c) ∧ cf m = (p, q) := by
      refine ⟨_, rfl, ?_⟩
      by_cases c : l.length % 2 = 0
      · rw [if_pos c]
        have hlast : l = l.dropLast ++ [l.getLastD 0] := by
          rw [List.getLastD_eq_getLast?, List.getLast?_eq_some_getLast i3]
          exact (List.dropLast_concat_getLast i3).symm
        refine ⟨?_, fun x hx => ?_, ?_⟩
        · have := List.length_pos_iff.2 i3
          simp; omega
        · rcases List.mem_append.1 hx with hx | hx
          · exact i1 x (List.dropLast_subset _ hx)
          · simp only [List.mem_cons, List.not_mem_nil, or_false] at hx; omega
        · rw [cf_last _ _ (by omega), ← hlast, i2]
      · rw [if_neg c]
        exact ⟨by omega, i1, i2⟩
    obtain ⟨m, e, k1, k2, k3⟩ := key
    rw [e]
    refine ⟨by rw [List.length_reverse]; exact k1, fun c hc => k2 c (List.mem_reverse.1 hc), by rw [cf_fold, k3], ?_⟩
    rw [List.sum_reverse]
    have := cf_sum k2
    rw [k3] at this
    exact this
end Go.Proofs.Ytcfpdeeipbekfaa.Kn

/- Crossings turned, strands turned round: plain mathematics. -/
namespace Go.Proofs.Ytcfpdeeipbekfaa.Kn

/- a place of a turned crossing, as a place of what was -/
def trn (k : Nat → Nat) (p : Pl) : Pl := (p.1, (p.2 + k p.1) % 4)
def utrn (k : Nat → Nat) (p : Pl) : Pl := (p.1, (p.2 + 3 * k p.1) % 4)
theorem trn_utrn (k : Nat → Nat) {p : Pl} (h : p.2 < 4) : trn k (utrn k p) = p := by
  unfold trn utrn; refine Prod.ext rfl ?_; simp only; omega
theorem utrn_trn (k : Nat → Nat) {p : Pl} (h : p.2 < 4) : utrn k (trn k p) = p := by
  unfold trn utrn; refine Prod.ext rfl ?_; simp only; omega
/- Y is X with its crossings turned, the arcs of e the other way round -/
structure Tur (X Y : List Cr) (k : Nat → Nat) (e : Nat → Bool) : Prop where
  len : Y.length = X.length
  at_ : ∀ p, isPl X p → at_ Y p = at_ X (trn k p)
  cm : ∀ p, isPl X p → cm Y p = xor (cm X (trn k p)) (e (arcN X (trn k p)))
section
variable {X Y : List Cr} {k : Nat → Nat} {e : Nat → Bool}
theorem Tur.isPl (h : Tur X Y k e) {p : Pl} : isPl Y p ↔ isPl X p := by unfold Kn.isPl; rw [h.len]
theorem isPl_trn {p : Pl} (hp : isPl X p) : isPl X (trn k p) := ⟨hp.1, Nat.mod_lt _ (by omega)⟩
theorem isPl_utrn {p : Pl} (hp : isPl X p) : isPl X (utrn k p) := ⟨hp.1, Nat.mod_lt _ (by omega)⟩
theorem Tur.arcs (h : Tur X Y k e) : nArcs Y = nArcs X := by unfold nArcs; rw [h.len]
theorem Tur.isArc (h : Tur X Y k e) {a : Nat} : isArc Y a ↔ isArc X a := by unfold Kn.isArc; rw [h.arcs]
theorem Tur.ok (h : Tur X Y k e) (hX : Ok X) : Ok Y := by
  refine ok_mk (fun p hp => ?_) (fun io a ha => ?_) fun p q hp hq hc ha => ?_
  · have hp := h.isPl.1 hp
    rw [h.at_ p hp, h.arcs]
    exact hX.rng _ (isPl_trn hp)
  · have ha := h.isArc.1 ha
    have hq := hX.isPl_end (io := xor io (e a)) ha
    have hu := isPl_utrn (k := k) hq
    have et := trn_utrn k hq.2
    refine ⟨utrn k (endP X (xor io (e a)) a), h.isPl.2 hu, ?_, ?_⟩
    · rw [h.cm _ hu, et, hX.cm_end ha, hX.arc_end ha]
      cases io <;> cases e a <;> rfl
    · rw [h.at_ _ hu, et, hX.at_end ha]
  · have hp := h.isPl.1 hp
    have hq := h.isPl.1 hq
    rw [h.at_ p hp, h.at_ q hq] at ha
    have hn : Kn.arcN X (trn k p) = Kn.arcN X (trn k q) := by unfold Kn.arcN; rw [ha]
    rw [h.cm p hp, h.cm q hq, hn] at hc
    have := hX.uniq _ _ (isPl_trn hp) (isPl_trn hq) (by revert hc; cases Kn.cm X (trn k p) <;> cases Kn.cm X (trn k q) <;> cases e (Kn.arcN X (trn k q)) <;> simp) ha
    have := congrArg (utrn k) this
    rwa [utrn_trn k hp.2, utrn_trn k hq.2] at this
theorem Tur.arcN (h : Tur X Y k e) {p : Pl} (hp : Kn.isPl X p) : arcN Y p = arcN X (trn k p) := by unfold Kn.arcN; rw [h.at_ p hp]
theorem Tur.other (h : Tur X Y k e) (hX : Ok X) {p : Pl} (hp : Kn.isPl X p) : trn k (Kn.other Y p) = Kn.other X (trn k p) := by
  have hY := h.ok hX
  have hp' := h.isPl.2 hp
  have ho := h.isPl.1 (hY.isPl_other hp')
  have ht := isPl_trn (k := k) hp
  have a1 : Kn.arcN X (trn k (Kn.other Y p)) = Kn.arcN X (trn k p) := by rw [← h.arcN ho, ← h.arcN hp, hY.arc_other hp']
  refine hX.uniq _ _ (isPl_trn ho) (hX.isPl_other ht) ?_ ?_
  · rw [hX.cm_other ht]
    have c1 := hY.cm_other hp'
    rw [h.cm _ ho, h.cm _ hp, a1] at c1
    revert c1
    cases Kn.cm X (trn k (Kn.other Y p)) <;> cases Kn.cm X (trn k p) <;> cases e (Kn.arcN X (trn k p)) <;> simp
  · rw [← hX.arcN_eq (isPl_trn ho), ← hX.arcN_eq (hX.isPl_other ht), a1, hX.arc_other ht]
/- the faces and the pieces lie as they lay -/
theorem Tur.nbs (h : Tur X Y k e) (hX : Ok X) {c d : Nat} (hc : c < X.length) : d ∈ nbs Y c ↔ d ∈ nbs X c := by
  rw [mem_nbs, mem_nbs]
  have key : ∀ s, s < 4 → (Kn.other Y (c, s)).1 = (Kn.other X (trn k (c, s))).1 := fun s hs => by
    rw [← h.other hX ⟨hc, hs⟩]; rfl
  constructor
  · rintro ⟨s, hs, rfl⟩
    exact ⟨(s + k c) % 4, by omega, key s hs⟩
  · rintro ⟨s, hs, rfl⟩
    have := key ((s + 3 * k c) % 4) (by omega)
    refine ⟨(s + 3 * k c) % 4, by omega, ?_⟩
    rw [this]
    have : trn k (c, (s + 3 * k c) % 4) = (c, s) := trn_utrn k (p := (c, s)) hs
    rw [this]
theorem Tur.con (h : Tur X Y k e) (hX : Ok X) {c d : Nat} : Con Y c d ↔ Con X c d := by
  have key : nbc Y = nbc Y := rfl
  have hm : ∀ c d, d ∈ nbc Y c ↔ d ∈ nbc X c := fun c d => by
    unfold nbc
    rw [h.len]
    by_cases hc : c < X.length
    · rw [if_pos hc, if_pos hc]; exact h.nbs hX hc
    · rw [if_neg hc, if_neg hc]
  constructor
  · intro x
    induction x with
    | refl => exact .refl _
    | step _ he ih => exact .step ih ((hm _ _).1 he)
  · intro x
    induction x with
    | refl => exact .refl _
    | step _ he ih => exact .step ih ((hm _ _).2 he)
theorem Tur.faces (h : Tur X Y k e) (hX : Ok X) : (facesL Y).length = (facesL X).length := by
  have hY := h.ok hX
  obtain ⟨g, hg⟩ : ∃ g : Nat → Nat, ∀ x, g x = if x < 4 * X.length then pk (trn k (pl x)) else x := ⟨_, fun _ => rfl⟩
  have hgp : ∀ p, Kn.isPl X p → g (pk p) = pk (trn k p) := fun p hp => by rw [hg, if_pos (pk_lt hp), pl_pk hp.2]
  have hpl : ∀ x, x < 4 * X.length → x = pk (pl x) ∧ Kn.isPl X (pl x) := fun x hx => ⟨by unfold pk pl; simp only; omega, isPl_pl hx⟩
  have hgl : ∀ x, x < 4 * X.length → g x < 4 * X.length := fun x hx => by
    obtain ⟨e1, hp⟩ := hpl x hx
    rw [e1, hgp _ hp]; exact pk_lt (isPl_trn hp)
  have hgi : ∀ x y, x < 4 * X.length → y < 4 * X.length → g x = g y → x = y := fun x y hx hy e => by
    obtain ⟨e1, hp⟩ := hpl x hx
    obtain ⟨e2, hq⟩ := hpl y hy
    rw [e1, e2, hgp _ hp, hgp _ hq] at e
    have := pk_inj (isPl_trn hp).2 (isPl_trn hq).2 e
    have := congrArg (utrn k) this
    rw [utrn_trn k hp.2, utrn_trn k hq.2] at this
    rw [e1, e2, this]
  have hf : ∀ x, x < 4 * X.length → g (fac Y x) = fac X (g x) := fun x hx => by
    obtain ⟨e1, hp⟩ := hpl x hx
    have hp' := h.isPl.2 hp
    have ht := isPl_turn hp 3
    rw [e1, hY.fac_pk hp', hgp _ (h.isPl.1 (hY.isPl_other (isPl_turn hp' 3))), h.other hX ht, hgp _ hp, hX.fac_pk (isPl_trn hp)]
    congr 2
    unfold trn
    simp only
    refine Prod.ext rfl ?_
    simp only; omega
  have hfl : ∀ x, x < 4 * X.length → fac Y x < 4 * X.length := fun x hx => by have := hY.fac_pm.lt x (by rw [h.len]; exact hx); rwa [h.len] at this
  have key : ∀ x y, x < 4 * X.length → (Orb (fac Y) x y ↔ y < 4 * X.length ∧ Orb (fac X) (g x) (g y)) := fun x y hx => by
    have hit : ∀ n, it (fac Y) n x < 4 * X.length ∧ g (it (fac Y) n x) = it (fac X) n (g x) := fun n => by
      induction n with
      | zero => exact ⟨hx, rfl⟩
      | succ n ih => exact ⟨hfl _ ih.1, by rw [it, hf _ ih.1, ih.2]; rfl⟩
    constructor
    · rintro ⟨n, rfl⟩
      exact ⟨(hit n).1, n, (hit n).2.symm⟩
    · rintro ⟨hy, n, e⟩
      refine ⟨n, hgi _ _ (hit n).1 hy ?_⟩
      rw [(hit n).2, e]
  rw [← hX.cl_faces]
  have hflat : ((facesL Y).map (List.map fun d => pk (head Y d))).flatten.Perm (List.range (4 * X.length)) := by have := hY.faces_flat; rwa [h.len] at this
  have hlt : ∀ r ∈ (facesL Y).map (List.map fun d => pk (head Y d)), ∀ x ∈ r, x < 4 * X.length := fun r hr x hx => List.mem_range.1 (hflat.mem_iff.1 (List.mem_flatten.2 ⟨r, hr, hx⟩))
  have hgs : ∀ y, y < 4 * X.length → ∃ x, x < 4 * X.length ∧ g x = y := fun y hy => by
    have hp := inj_perm (l := List.range (4 * X.length)) List.nodup_range (fun x hx => List.mem_range.2 (hgl x (List.mem_range.1 hx))) fun x hx y hy e => hgi x y (List.mem_range.1 hx) (List.mem_range.1 hy) e
    obtain ⟨x, hx, e⟩ := List.mem_map.1 (hp.mem_iff.2 (List.mem_range.2 hy))
    exact ⟨x, List.mem_range.1 hx, e⟩
  have := cl_lists hX.fac_pm.equiv (N := 4 * X.length) (ll := ((facesL Y).map (List.map fun d => pk (head Y d))).map (List.map g)) (by
      rw [← List.map_flatten]
      exact (hflat.map g).trans (inj_perm List.nodup_range (fun x hx => List.mem_range.2 (hgl x (List.mem_range.1 hx))) fun x hx y hy e => hgi x y (List.mem_range.1 hx) (List.mem_range.1 hy) e))
    (fun l hl => by
      obtain ⟨r, hr, rfl⟩ := List.mem_map.1 hl
      obtain ⟨f, hf, rfl⟩ := List.mem_map.1 hr
      have := faces_ne Y f hf
      simpa using this)
    (fun l hl x hx y => by
      obtain ⟨r, hr, rfl⟩ := List.mem_map.1 hl
      obtain ⟨z, hz, rfl⟩ := List.mem_map.1 hx
      have hzl := hlt r hr z hz
      have hcl := hY.faces_is r hr z hz
      constructor
      · intro hy
        obtain ⟨u, hu, rfl⟩ := List.mem_map.1 hy
        exact ((key z u hzl).1 ((hcl u).1 hu)).2
      · intro ho
        have hyl : y < 4 * X.length := Orb.lt hX.fac_pm (hgl z hzl) ho
        obtain ⟨u, hu, rfl⟩ := hgs y hyl
        exact List.mem_map.2 ⟨u, (hcl u).2 ((key z u hzl).2 ⟨hu, ho⟩), rfl⟩)
  rw [this, List.length_map, List.length_map]
end

/- the crossing turned; the mirror image -/
def turnC (x : Cr) (k : Nat) : Cr := ⟨x.arc (k % 4), x.arc ((1 + k) % 4), x.arc ((2 + k) % 4), x.arc ((3 + k) % 4), x.p⟩
section
variable {X : List Cr} {e : Nat → Bool}
end
end Go.Proofs.Ytcfpdeeipbekfaa.Kn

/- Fractions of lists, plain: how great they come. -/
namespace Go.Proofs.Ytcfpdeeipbekfaa.Kn
set_option linter.unusedVariables false

theorem two_pow_ge (a : Nat) : 1 + a ≤ 2 ^ a := by
  induction a with
  | zero => decide
  | succ a ih => rw [Nat.pow_succ]; omega
theorem pq_bd : ∀ (l : List Int) (i : Nat) (x : Int × Int), (pqI l i x).1.natAbs + (pqI l i x).2.natAbs ≤ 2 ^ absL l * (x.1.natAbs + x.2.natAbs)
  | [], _, x => by simp [pqI, absL]
  | a :: l, i, (P, Q) => by
    have key : ∀ p q : Int, p.natAbs + (q + a * p).natAbs ≤ 2 ^ a.natAbs * (p.natAbs + q.natAbs) := fun p q => by
      have h1 := Int.natAbs_add_le q (a * p)
      rw [Int.natAbs_mul] at h1
      have h2 := Nat.mul_le_mul_right (p.natAbs + q.natAbs) (two_pow_ge a.natAbs)
      have h3 : (1 + a.natAbs) * (p.natAbs + q.natAbs) = p.natAbs + q.natAbs + a.natAbs * p.natAbs + a.natAbs * q.natAbs := by grind
      have : 0 ≤ a.natAbs * q.natAbs := Nat.zero_le _
      omega
    have e : absL (a :: l) = a.natAbs + absL l := by simp [absL]
    rw [pqI, e, Nat.pow_add, Nat.mul_comm (2 ^ a.natAbs), Nat.mul_assoc]
    refine Nat.le_trans (pq_bd l (i + 1) _) (Nat.mul_le_mul_left _ ?_)
    split
    · exact key P Q
    · have := key Q P
      show (P + a * Q).natAbs + Q.natAbs ≤ _ * (P.natAbs + Q.natAbs)
      rw [Nat.add_comm, Nat.add_comm P.natAbs]; exact this
theorem absL_app (l m : List Int) : absL (l ++ m) = absL l + absL m := by simp [absL]
theorem absL_take {l : List Int} {k : Nat} (hk : k < l.length) : absL (l.take (k + 1)) = absL (l.take k) + (l.getD k 0).natAbs := by
  rw [List.take_succ_eq_append_getElem hk, absL_app, List.getD_eq_getElem?_getD, List.getElem?_eq_getElem hk]
  simp [absL]
theorem absL_take_le (l : List Int) (k : Nat) : absL (l.take k) ≤ absL l := by
  conv => rhs; rw [← List.take_append_drop k l, absL_app]
  omega
theorem absL_get {l : List Int} {k : Nat} (hk : k < l.length) : (l.getD k 0).natAbs ≤ absL l := by
  have := absL_take hk
  have := absL_take_le l (k + 1)
  omega
theorem frI_app : ∀ (l m : List Int) (x : Int × Int), frI (l ++ m) x = frI m (frI l x)
  | [], _, _ => rfl
  | a :: l, m, x => by rw [List.cons_append, frI, frI, frI_app l m]
theorem frI_take {l : List Int} {k : Nat} (hk : k < l.length) (x : Int × Int) : frI (l.take (k + 1)) x = frS (l.getD k 0) (frI (l.take k) x) := by
  rw [List.take_succ_eq_append_getElem hk, frI_app, List.getD_eq_getElem?_getD, List.getElem?_eq_getElem hk]
  rfl
def Bd (N : Int) (x : Int × Int) : Prop := (-N ≤ x.1 ∧ x.1 ≤ N) ∧ -N ≤ x.2 ∧ x.2 ≤ N
/-- Every step's numbers are small. -/
theorem fr_bd {l : List Int} (hs : absL l ≤ 16) (k : Nat) : Bd 65536 (frI (l.take k) (1, 0)) ∧ Bd 65536 (lowI (frI (l.take k) (1, 0)).2 (frI (l.take k) (1, 0)).1) := by
  obtain ⟨g, h, _⟩ := frI_is (l.take k) 0 (1, 0) (0, 1) (by decide) (by rw [if_pos rfl]; exact .inl rfl) (by decide)
  have hb := pq_bd (l.take k) 0 (0, 1)
  have h2 : 2 ^ absL (l.take k) ≤ 2 ^ 16 := Nat.pow_le_pow_right (by omega) (Nat.le_trans (absL_take_le l k) hs)
  simp only [Int.natAbs_zero, Int.natAbs_one, Nat.zero_add, Nat.mul_one] at hb
  have h3 : (2 : Nat) ^ 16 = 65536 := by decide
  rw [h3] at h2
  generalize pqI (l.take k) 0 (0, 1) = y at *
  generalize frI (l.take k) (1, 0) = x at *
  obtain ⟨P, Q⟩ := y
  simp only at g h hb
  have gx : Int.gcd x.2 x.1 = 1 ∧ Bd 65536 x := by
    have gs := gcd_swap g
    split at h
    · rcases h with rfl | rfl
      · exact ⟨g, by unfold Bd; simp only; omega⟩
      · exact ⟨gcd_sm g (.inr rfl), by unfold Bd; simp only; omega⟩
    · rcases h with rfl | rfl
      · exact ⟨gs, by unfold Bd; simp only; omega⟩
      · exact ⟨gcd_sm gs (.inr rfl), by unfold Bd; simp only; omega⟩
  refine ⟨gx.2, ?_⟩
  obtain ⟨k1, _⟩ := lowI_is gx.1
  obtain ⟨b1, b2⟩ := gx.2
  rcases k1 with e | e <;> rw [e] <;> unfold Bd <;> simp only <;> omega
theorem mul_bd {a x : Int} (h1 : a.natAbs ≤ 16) (h2 : -65536 ≤ x ∧ x ≤ 65536) : -1048576 ≤ a * x ∧ a * x ≤ 1048576 := by
  have h : (a * x).natAbs = a.natAbs * x.natAbs := Int.natAbs_mul a x
  have := Nat.mul_le_mul h1 (show x.natAbs ≤ 65536 by omega)
  omega
end Go.Proofs.Ytcfpdeeipbekfaa.Kn

/- Lists of twists, plain: what joins what at the closing. -/
namespace Go.Proofs.Ytcfpdeeipbekfaa.Kn
set_option linter.unusedVariables false

def Jn (t : Tg) (a b : Nat) : Prop := (en t.ends a).c = true ∨ ((en t.ends a).c = false ∧ (en t.ends a).o = b)
theorem link_conds (l : List Int) : Jn (linkI l 0 Tg.first) 0 1 ∧ Jn ((linkI l 0 Tg.first).join 0 1) 2 3 ∧ (linkI l 0 Tg.first).loops = 0 := by
  rw [linkI_run]
  generalize blS (spots l 0) = bl
  generalize abS (spots l 0) = ab
  generalize absL l = n
  rcases n with _ | n
  · exact ⟨.inr ⟨rfl, rfl⟩, .inr ⟨rfl, rfl⟩, rfl⟩
  · obtain ⟨_, _, _, h2, _, h6⟩ := close_is bl ab (Nat.succ_pos n)
    refine ⟨?_, .inl h2, (runN_len bl ab (n + 1)).2.2⟩
    cases h : (eN bl ab (n + 1) 0).c with
    | true => exact .inl h
    | false => exact .inr ⟨h, h6 h⟩
theorem glue_loops (t : Tg) (k : Nat) (c : Pl) : (t.glue k c).loops = t.loops := by unfold Tg.glue; split <;> rfl
theorem join_loops {t : Tg} {a b : Nat} (h : Jn t a b) : (t.join a b).loops ≤ t.loops + 1 := by
  unfold Tg.join
  simp only
  rcases h with h | ⟨h1, h2⟩
  · rw [if_pos h, glue_loops]; omega
  · rw [if_neg (by rw [h1]; decide), if_pos h2]; exact Nat.le_refl _
theorem join_loop {t : Tg} {a b : Nat} (h1 : (en t.ends a).c = false) (h2 : (en t.ends a).o = b) : t.join a b = { t with loops := t.loops + 1 } := by
  unfold Tg.join
  simp only
  rw [if_neg (by rw [h1]; decide), if_pos h2]
end Go.Proofs.Ytcfpdeeipbekfaa.Kn

/- Determinants, plain: a polynomial's value at -1, term by term; all that the law asks of a list. -/
namespace Go.Proofs.Ytcfpdeeipbekfaa.Kn
set_option linter.unusedVariables false

def dT (u : Pl.T) : Int := u.2 * (1 - 2 * u.1.tmod 2)
def dS (l : List Pl.T) : Int := (l.map dT).sum
theorem dS_app (l m : List Pl.T) : dS (l ++ m) = dS l + dS m := by simp [dS]
theorem dS_take {l : List Pl.T} {k : Nat} (hk : k < l.length) : dS (l.take (k + 1)) = dS (l.take k) + dT (l.getD k (0, 0)) := by
  rw [List.take_succ_eq_append_getElem hk, dS_app, List.getD_eq_getElem?_getD, List.getElem?_eq_getElem hk]
  simp [dS]
theorem dT_bd (u : Pl.T) (h : 0 ≤ u.1) : (dT u).natAbs = u.2.natAbs ∧ (u.1.tmod 2 = 0 ∧ dT u = u.2 ∨ u.1.tmod 2 = 1 ∧ dT u = -u.2) := by
  unfold dT
  have h2 : u.1.tmod 2 = u.1 % 2 := Int.tmod_eq_emod_of_nonneg h
  rcases (show u.1 % 2 = 0 ∨ u.1 % 2 = 1 by omega) with e | e <;> rw [h2, e]
  · exact ⟨by simp, .inl ⟨rfl, by simp⟩⟩
  · exact ⟨by simp, .inr ⟨rfl, by simp⟩⟩
theorem dS_bd : ∀ {l : List Pl.T}, (∀ u ∈ l, 0 ≤ u.1) → (dS l).natAbs ≤ Pl.size l
  | [], _ => by simp [dS, Pl.size]
  | u :: l, h => by
    have ih := dS_bd (l := l) fun x hx => h x (List.mem_cons_of_mem _ hx)
    have h1 := (dT_bd u (h u List.mem_cons_self)).1
    have e : dS (u :: l) = dT u + dS l := by simp [dS]
    rw [e, Pl.size_cons]
    omega
theorem size_take_le (l : List Pl.T) (k : Nat) : Pl.size (l.take k) ≤ Pl.size l := by
  conv => rhs; rw [← List.take_append_drop k l, Pl.size_app]
  omega
theorem size_get {l : List Pl.T} {k : Nat} (hk : k < l.length) : (l.getD k (0, 0)).2.natAbs ≤ Pl.size l := by
  have h := size_take_le l (k + 1)
  rw [List.take_succ_eq_append_getElem hk, Pl.size_app] at h
  rw [List.getD_eq_getElem?_getD, List.getElem?_eq_getElem hk]
  have : Pl.size [l[k]] = l[k].2.natAbs := by simp [Pl.size]
  show l[k].2.natAbs ≤ _
  omega
theorem pow_neg (k : Nat) : (-1 : Rat) ^ (k : Int) = ((1 - 2 * ((k : Int) % 2) : Int) : Rat) := by
  rw [Rat.zpow_natCast]
  induction k with
  | zero => simp
  | succ k ih =>
    rw [Rat.pow_succ, ih]
    rcases (show ((k : Int) % 2 = 0) ∨ ((k : Int) % 2 = 1) by omega) with e | e
    · have e2 : ((k + 1 : Nat) : Int) % 2 = 1 := by omega
      have a1 : ((1 - 2 * 0 : Int) : Rat) = 1 := rfl
      have a2 : ((1 - 2 * 1 : Int) : Rat) = -1 := rfl
      rw [e, e2, a1, a2]; grind
    · have e2 : ((k + 1 : Nat) : Int) % 2 = 0 := by omega
      have a1 : ((1 - 2 * 0 : Int) : Rat) = 1 := rfl
      have a2 : ((1 - 2 * 1 : Int) : Rat) = -1 := rfl
      rw [e, e2, a1, a2]; grind
theorem dS_ev : ∀ {l : List Pl.T}, (∀ u ∈ l, 0 ≤ u.1) → (dS l : Rat) = Pl.ev (-1) l
  | [], _ => rfl
  | u :: l, h => by
    have ih := dS_ev (l := l) fun x hx => h x (List.mem_cons_of_mem _ hx)
    have h0 := h u List.mem_cons_self
    have e : dS (u :: l) = dT u + dS l := by simp [dS]
    obtain ⟨k, hk⟩ : ∃ k : Nat, u.1 = k := ⟨u.1.toNat, by omega⟩
    rw [e, Rat.intCast_add, ih, Pl.ev_cons, hk, pow_neg]
    unfold dT
    rw [hk, Int.tmod_eq_emod_of_nonneg (by omega), Rat.intCast_mul]
/-- WHAT THE LAW ASKS OF A LIST. -/
theorem list_law {l : List Int} (hl : l.length % 2 = 1) (hs : absL l ≤ 10) : ∃ X L, (closeT (linkI l 0 Tg.first)).diagramC = some (X, L) ∧ X.length ≤ 10 ∧ L ≤ 2 ∧ mayB X (L : Int) = true ∧ planarB X = true ∧ 0 ≤ (frI l (1, 0)).2 ∧
    ((strandsL X).length + L = if (frI l (1, 0)).1 % 2 = 0 then 2 else 1) ∧ ∀ a, AlexIs X L a → max (dS a) (-dS a) = (frI l (1, 0)).1 ∨ max (dS a) (-dS a) = -(frI l (1, 0)).1 := by
  obtain ⟨X, L, h1, h2, h3, h4, h5, h6, h7⟩ := link_law (l := l) (by omega)
  obtain ⟨f1, f2⟩ := frI_PQ hl
  refine ⟨X, L, h1, by omega, h3, ?_, h5, f2, ?_, fun a ha => ?_⟩
  · unfold mayB
    have hne : ¬ (X.length = 0 ∧ (L : Int) = 0) := fun ⟨e1, e2⟩ => by
      have hX : X = [] := List.length_eq_zero_iff.1 e1
      subst hX
      have : (strandsL ([] : List Cr)).length = 0 := by decide +kernel
      rw [this] at h6
      split at h6 <;> omega
    rw [(ok_iff X).2 h4]
    simp only [Bool.and_true]
    have c1 : decide (X.length ≤ 16) = true := by rw [decide_eq_true_eq]; omega
    have c2 : decide ((0 : Int) ≤ (L : Int)) = true := by rw [decide_eq_true_eq]; omega
    have c3 : decide ((L : Int) ≤ 16) = true := by rw [decide_eq_true_eq]; omega
    rw [c1, c2, c3]
    by_cases e1 : X.length = 0
    · have e2 : ¬ (L : Int) = 0 := fun k => hne ⟨e1, k⟩
      rw [decide_eq_false e2]; simp
    · simp [e1]
  · rw [h6]
    rcases f1 with e | e <;> rw [e]
    by_cases c : (pqI l 0 (0, 1)).1 % 2 = 0
    · rw [if_pos c, if_pos (by omega)]
    · rw [if_neg c, if_neg (by omega)]
  · have hd := dS_ev (l := a) ha.1.low
    have : dS a = (pqI l 0 (0, 1)).1 ∨ dS a = -(pqI l 0 (0, 1)).1 := by
      rcases h7 a ha with e | e <;> rw [← hd] at e
      · exact .inl (Rat.intCast_inj.1 e)
      · rw [← Rat.intCast_neg] at e
        exact .inr (Rat.intCast_inj.1 e)
    omega
end Go.Proofs.Ytcfpdeeipbekfaa.Kn

/- The fraction of what was expanded, step by step, plain. -/
namespace Go.Proofs.Ytcfpdeeipbekfaa.Kn
set_option linter.unusedVariables false

def cS (x : Nat × Nat) (c : Nat) : Nat × Nat := (c * x.1 + x.2, x.1)
theorem cS_mono : ∀ (l : List Nat) (x : Nat × Nat), (∀ c ∈ l, 1 ≤ c) → x.1 ≤ (l.foldl cS x).1
  | [], _, _ => Nat.le_refl _
  | c :: l, x, h => by
    have h1 := h c List.mem_cons_self
    have := cS_mono l (cS x c) fun y hy => h y (List.mem_cons_of_mem _ hy)
    have h2 : x.1 ≤ (cS x c).1 := by
      show x.1 ≤ c * x.1 + x.2
      have := Nat.mul_le_mul_right x.1 h1
      omega
    exact Nat.le_trans h2 this
theorem cS_take {l : List Nat} (k : Nat) (hk : k < l.length) (x : Nat × Nat) : (l.take (k + 1)).foldl cS x = cS ((l.take k).foldl cS x) (l.getD k 0) := by
  rw [List.take_succ_eq_append_getElem hk, List.foldl_append, List.getD_eq_getElem?_getD, List.getElem?_eq_getElem hk]; rfl
theorem cS_le {l : List Nat} (h : ∀ c ∈ l, 1 ≤ c) (k : Nat) (x : Nat × Nat) : ((l.take k).foldl cS x).1 ≤ (l.foldl cS x).1 := by
  conv => rhs; rw [← List.take_append_drop k l, List.foldl_append]
  exact cS_mono _ _ fun c hc => h c (List.mem_of_mem_drop hc)
theorem cS_bd {l : List Nat} (h : ∀ c ∈ l, 1 ≤ c) {N : Nat} (hN : (l.foldl cS (1, 0)).1 ≤ N) (k : Nat) : ((l.take k).foldl cS (1, 0)).1 ≤ N ∧ ((l.take k).foldl cS (1, 0)).2 ≤ N := by
  refine ⟨Nat.le_trans (cS_le h k _) hN, ?_⟩
  cases k with
  | zero => simp
  | succ k =>
    by_cases c : k < l.length
    · rw [cS_take k c]
      exact Nat.le_trans (cS_le h k _) hN
    · rw [List.take_of_length_le (by omega)]
      rcases Nat.eq_zero_or_pos l.length with e | e
      · have : l = [] := List.length_eq_zero_iff.1 e
        subst this; simp
      · obtain ⟨m, hm⟩ : ∃ m, l.length = m + 1 := ⟨l.length - 1, by omega⟩
        have h1 := cS_take (l := l) m (by omega) (1, 0)
        rw [List.take_of_length_le (by omega)] at h1
        rw [h1]
        exact Nat.le_trans (cS_le h m _) hN
end Go.Proofs.Ytcfpdeeipbekfaa.Kn
