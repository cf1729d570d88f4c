/- Diagrams as lists of crossings: places, arcs, what may be: plain mathematics. -/
import Derived.Test.YtgjmjbgicfkojaaMRing
namespace Go.Proofs.Ytgjmjbgicfkojaa.Kn

structure Cr where
  a : Int
  b : Int
  c : Int
  d : Int
  p : Bool
deriving DecidableEq, Inhabited

def Cr.arc (x : Cr) (s : Nat) : Int := if s = 0 then x.a else if s = 1 then x.b else if s = 2 then x.c else x.d
def over (p : Bool) : Nat := if p then 3 else 1
def Cr.comes (x : Cr) (s : Nat) : Bool := decide (s = 0) || decide (s = over x.p)
abbrev Pl := Nat × Nat
def cr (X : List Cr) (c : Nat) : Cr := X.getD c default
def at_ (X : List Cr) (p : Pl) : Int := (cr X p.1).arc p.2
def cm (X : List Cr) (p : Pl) : Bool := (cr X p.1).comes p.2
/- the k-th place -/
def pl (k : Nat) : Pl := (k / 4, k % 4)
theorem pl_mk {c s : Nat} (hs : s < 4) : pl (c * 4 + s) = (c, s) := by
  unfold pl; rw [show (c * 4 + s) / 4 = c by omega, show (c * 4 + s) % 4 = s by omega]
theorem pl_inj {j k : Nat} (h : pl j = pl k) : j = k := by
  unfold pl at h
  injection h with h1 h2
  omega
def pk (p : Pl) : Nat := p.1 * 4 + p.2
theorem pl_pk {p : Pl} (h : p.2 < 4) : pl (pk p) = p := pl_mk h

/- how often an arc comes in (goes out) at the first k places, and where last -/
def cnt (X : List Cr) (io : Bool) : Nat → Nat → Nat
  | 0, _ => 0
  | k + 1, a => cnt X io k a + if cm X (pl k) = io ∧ at_ X (pl k) = a then 1 else 0
def last (X : List Cr) (io : Bool) : Nat → Nat → Pl
  | 0, _ => (0, 0)
  | k + 1, a => if cm X (pl k) = io ∧ at_ X (pl k) = a then pl k else last X io k a
theorem cnt_succ (X : List Cr) (io : Bool) (k a : Nat) : cnt X io (k + 1) a = cnt X io k a + if cm X (pl k) = io ∧ at_ X (pl k) = a then 1 else 0 := rfl
theorem last_succ (X : List Cr) (io : Bool) (k a : Nat) : last X io (k + 1) a = if cm X (pl k) = io ∧ at_ X (pl k) = a then pl k else last X io k a := rfl
theorem cnt_le (X : List Cr) (io : Bool) (a : Nat) : ∀ k, cnt X io k a ≤ k
  | 0 => Nat.le_refl _
  | k + 1 => by
    have := cnt_le X io a k
    rw [cnt_succ]; split <;> omega
def nArcs (X : List Cr) : Nat := 2 * X.length
/- arcs in range; each comes in once and goes out once -/
def inRange (X : List Cr) (k : Nat) : Prop := ∀ j, j < k → 1 ≤ at_ X (pl j) ∧ at_ X (pl j) ≤ (nArcs X : Int)
def once (X : List Cr) (m : Nat) : Prop := ∀ a, 1 ≤ a → a ≤ m → cnt X true (4 * X.length) a = 1 ∧ cnt X false (4 * X.length) a = 1
def okB (X : List Cr) : Bool :=
  (List.range (4 * X.length)).all (fun j => decide (1 ≤ at_ X (pl j)) && decide (at_ X (pl j) ≤ (nArcs X : Int))) &&
  (List.range (nArcs X)).all (fun a => decide (cnt X true (4 * X.length) (a + 1) = 1) && decide (cnt X false (4 * X.length) (a + 1) = 1))
theorem okB_iff (X : List Cr) : okB X = true ↔ inRange X (4 * X.length) ∧ once X (nArcs X) := by
  unfold okB inRange once
  simp only [Bool.and_eq_true, List.all_eq_true, List.mem_range, decide_eq_true_eq]
  refine and_congr Iff.rfl ⟨fun h a h1 h2 => ?_, fun h a h1 => h (a + 1) (by omega) (by omega)⟩
  have := h (a - 1) (by omega)
  rwa [show a - 1 + 1 = a by omega] at this
def mayB (X : List Cr) (L : Int) : Bool := decide (X.length ≤ 16) && decide (0 ≤ L) && decide (L ≤ 16) && !(decide (X.length = 0) && decide (L = 0)) && okB X

/- the last place found is one, if there is one -/
theorem last_of {X : List Cr} {io : Bool} {a : Nat} : ∀ {k : Nat}, 1 ≤ cnt X io k a → ∃ j, j < k ∧ last X io k a = pl j ∧ cm X (pl j) = io ∧ at_ X (pl j) = a
  | 0, h => by simp [cnt] at h
  | k + 1, h => by
    rw [cnt_succ] at h
    rw [last_succ]
    by_cases c : cm X (pl k) = io ∧ at_ X (pl k) = a
    · rw [if_pos c]; exact ⟨k, by omega, rfl, c⟩
    · rw [if_neg c] at h ⊢
      obtain ⟨j, hj, r⟩ := last_of (k := k) (by omega)
      exact ⟨j, by omega, r⟩
theorem cnt_pos {X : List Cr} {io : Bool} {a : Nat} : ∀ {k j : Nat}, j < k → cm X (pl j) = io → at_ X (pl j) = a → 1 ≤ cnt X io k a
  | k + 1, j, hj, h1, h2 => by
    rw [cnt_succ]
    by_cases c : j = k
    · subst c; rw [if_pos ⟨h1, h2⟩]; omega
    · have := cnt_pos (k := k) (j := j) (by omega) h1 h2; omega
theorem cnt_two {X : List Cr} {io : Bool} {a : Nat} : ∀ {k i j : Nat}, i < j → j < k → cm X (pl i) = io → at_ X (pl i) = a → cm X (pl j) = io → at_ X (pl j) = a → 2 ≤ cnt X io k a
  | k + 1, i, j, hij, hj, h1, h2, h3, h4 => by
    rw [cnt_succ]
    by_cases c : j = k
    · subst c
      have := cnt_pos (k := j) hij h1 h2
      rw [if_pos ⟨h3, h4⟩]; omega
    · have := cnt_two (k := k) hij (by omega) h1 h2 h3 h4; omega

/- places of a diagram -/
def isPl (X : List Cr) (p : Pl) : Prop := p.1 < X.length ∧ p.2 < 4
def inP (X : List Cr) (a : Nat) : Pl := last X true (4 * X.length) a
def outP (X : List Cr) (a : Nat) : Pl := last X false (4 * X.length) a
def endP (X : List Cr) (io : Bool) (a : Nat) : Pl := last X io (4 * X.length) a
structure Ok (X : List Cr) : Prop where
  rng : ∀ p, isPl X p → 1 ≤ at_ X p ∧ at_ X p ≤ (nArcs X : Int)
  end_ : ∀ (io : Bool) (a : Nat), 1 ≤ a → a ≤ nArcs X → isPl X (endP X io a) ∧ cm X (endP X io a) = io ∧ at_ X (endP X io a) = a
  uniq : ∀ p q, isPl X p → isPl X q → cm X p = cm X q → at_ X p = at_ X q → p = q
theorem isPl_pl {X : List Cr} {j : Nat} (h : j < 4 * X.length) : isPl X (pl j) := ⟨by unfold pl; simp only; omega, by unfold pl; simp only; omega⟩
theorem pk_lt {X : List Cr} {p : Pl} (h : isPl X p) : pk p < 4 * X.length := by
  unfold pk; have := h.1; have := h.2; omega
theorem ok_iff (X : List Cr) : okB X = true ↔ Ok X := by
  rw [okB_iff]
  constructor
  · rintro ⟨h1, h2⟩
    have hr : ∀ p, isPl X p → 1 ≤ at_ X p ∧ at_ X p ≤ (nArcs X : Int) := fun p hp => by
      have := h1 (pk p) (pk_lt hp)
      rwa [pl_pk hp.2] at this
    refine ⟨hr, fun io a ha hb => ?_, fun p q hp hq hc ha => ?_⟩
    · have h3 : 1 ≤ cnt X io (4 * X.length) a := by
        have := h2 a ha hb
        cases io <;> omega
      obtain ⟨j, hj, e, e1, e2⟩ := last_of h3
      unfold endP
      rw [e]
      exact ⟨isPl_pl hj, e1, e2⟩
    · obtain ⟨h3, h4⟩ := hr p hp
      obtain ⟨n, hn⟩ : ∃ n : Nat, at_ X p = n := ⟨(at_ X p).toNat, by omega⟩
      have h5 := h2 n (by omega) (by omega)
      have h6 : cnt X (cm X p) (4 * X.length) n = 1 := by cases cm X p <;> first | exact h5.2 | exact h5.1
      rcases Nat.lt_trichotomy (pk p) (pk q) with c | c | c
      · have := cnt_two (X := X) (io := cm X p) (a := n) c (pk_lt hq) (by rw [pl_pk hp.2]) (by rw [pl_pk hp.2]; exact hn) (by rw [pl_pk hq.2]; exact hc.symm) (by rw [pl_pk hq.2, ← ha]; exact hn)
        omega
      · have : pl (pk p) = pl (pk q) := by rw [c]
        rwa [pl_pk hp.2, pl_pk hq.2] at this
      · have := cnt_two (X := X) (io := cm X p) (a := n) c (pk_lt hp) (by rw [pl_pk hq.2]; exact hc.symm) (by rw [pl_pk hq.2, ← ha]; exact hn) (by rw [pl_pk hp.2]) (by rw [pl_pk hp.2]; exact hn)
        omega
  · intro h
    refine ⟨fun j hj => h.rng _ (isPl_pl hj), fun a ha hb => ?_⟩
    have key : ∀ io, cnt X io (4 * X.length) a = 1 := fun io => by
      obtain ⟨h1, h2, h3⟩ := h.end_ io a ha hb
      have hp : 1 ≤ cnt X io (4 * X.length) a := cnt_pos (pk_lt h1) (by rw [pl_pk h1.2]; exact h2) (by rw [pl_pk h1.2]; exact h3)
      have hu : ∀ k, k ≤ 4 * X.length → cnt X io k a ≤ if pk (endP X io a) < k then 1 else 0 := by
        intro k
        induction k with
        | zero => intro _; simp [cnt]
        | succ k ih =>
          intro hk
          have h4 := ih (by omega)
          rw [cnt_succ]
          by_cases c : cm X (pl k) = io ∧ at_ X (pl k) = a
          · have : pl k = endP X io a := h.uniq _ _ (isPl_pl (by omega)) h1 (c.1.trans h2.symm) (c.2.trans h3.symm)
            have e : k = pk (endP X io a) := by
              rw [← this]; unfold pk pl; simp only; omega
            rw [← e] at h4 ⊢
            rw [if_neg (by omega)] at h4
            rw [if_pos c, if_pos (by omega)]; omega
          · rw [if_neg c]
            split at h4 <;> split <;> omega
      have := hu _ (Nat.le_refl _)
      split at this <;> omega
    exact ⟨key true, key false⟩
instance (X : List Cr) : Decidable (Ok X) := decidable_of_iff _ (ok_iff X)

/- the arc at a place, as a number; the place at its other end; the next arc of a strand; the dart to the left -/
def arcN (X : List Cr) (p : Pl) : Nat := (at_ X p).toNat
def other (X : List Cr) (p : Pl) : Pl := endP X (!cm X p) (arcN X p)
def nextA (X : List Cr) (a : Nat) : Nat := arcN X ((endP X true a).1, ((endP X true a).2 + 2) % 4)
abbrev Dt := Nat × Bool
def head (X : List Cr) (d : Dt) : Pl := endP X (!d.2) d.1
def left (X : List Cr) (d : Dt) : Dt := (arcN X ((head X d).1, ((head X d).2 + 3) % 4), cm X ((head X d).1, ((head X d).2 + 3) % 4))
def isArc (X : List Cr) (a : Nat) : Prop := 1 ≤ a ∧ a ≤ nArcs X
section
variable {X : List Cr}
theorem Ok.arcN_eq (h : Ok X) {p : Pl} (hp : isPl X p) : ((arcN X p : Nat) : Int) = at_ X p := by
  have := h.rng p hp; unfold arcN; omega
theorem Ok.isArc (h : Ok X) {p : Pl} (hp : isPl X p) : isArc X (arcN X p) := by
  have := h.rng p hp; have := h.arcN_eq hp; unfold Kn.isArc; omega
theorem Ok.isPl_end (h : Ok X) {io : Bool} {a : Nat} (ha : Kn.isArc X a) : isPl X (endP X io a) := (h.end_ io a ha.1 ha.2).1
theorem Ok.cm_end (h : Ok X) {io : Bool} {a : Nat} (ha : Kn.isArc X a) : cm X (endP X io a) = io := (h.end_ io a ha.1 ha.2).2.1
theorem Ok.at_end (h : Ok X) {io : Bool} {a : Nat} (ha : Kn.isArc X a) : at_ X (endP X io a) = a := (h.end_ io a ha.1 ha.2).2.2
theorem Ok.arc_end (h : Ok X) {io : Bool} {a : Nat} (ha : Kn.isArc X a) : arcN X (endP X io a) = a := by
  unfold arcN; rw [h.at_end ha]; rfl
theorem Ok.end_eq (h : Ok X) {p : Pl} (hp : isPl X p) : endP X (cm X p) (arcN X p) = p :=
  h.uniq _ _ (h.isPl_end (h.isArc hp)) hp (h.cm_end (h.isArc hp)) (by rw [h.at_end (h.isArc hp), h.arcN_eq hp])
theorem Ok.isPl_other (h : Ok X) {p : Pl} (hp : isPl X p) : isPl X (other X p) := h.isPl_end (h.isArc hp)
theorem Ok.cm_other (h : Ok X) {p : Pl} (hp : isPl X p) : cm X (other X p) = !cm X p := h.cm_end (h.isArc hp)
theorem Ok.arc_other (h : Ok X) {p : Pl} (hp : isPl X p) : arcN X (other X p) = arcN X p := h.arc_end (h.isArc hp)
theorem Ok.other_other (h : Ok X) {p : Pl} (hp : isPl X p) : other X (other X p) = p := by
  have h1 := h.end_eq hp
  show endP X (!cm X (other X p)) (arcN X (other X p)) = p
  rw [h.cm_other hp, h.arc_other hp, Bool.not_not, h1]
theorem isPl_turn {p : Pl} (hp : isPl X p) (k : Nat) : isPl X (p.1, (p.2 + k) % 4) := ⟨hp.1, Nat.mod_lt _ (by omega)⟩
theorem Ok.isArc_next (h : Ok X) {a : Nat} (ha : Kn.isArc X a) : Kn.isArc X (nextA X a) := h.isArc (isPl_turn (h.isPl_end ha) 2)
theorem Ok.isPl_head (h : Ok X) {d : Dt} (ha : Kn.isArc X d.1) : isPl X (head X d) := h.isPl_end ha
theorem Ok.isArc_left (h : Ok X) {d : Dt} (ha : Kn.isArc X d.1) : Kn.isArc X (left X d).1 := h.isArc (isPl_turn (h.isPl_head ha) 3)
end

/- all darts in order; faces; strands -/
def dart (k : Nat) : Dt := (k / 2 + 1, decide (k % 2 = 1))
def darts (X : List Cr) : List Dt := (List.range (4 * X.length)).map dart
def facesL (X : List Cr) : List (List Dt) := rings (left X) (4 * X.length + 1) [] (darts X)
def arcs (X : List Cr) : List Nat := (List.range (nArcs X)).map (· + 1)
def strandsL (X : List Cr) : List (List Nat) := rings (nextA X) (nArcs X + 1) [] (arcs X)
theorem dart_inj {j k : Nat} (h : dart j = dart k) : j = k := by
  unfold dart at h
  injection h with h1 h2
  have : (j % 2 = 1) ↔ (k % 2 = 1) := by
    constructor <;> intro e
    · exact of_decide_eq_true (h2 ▸ decide_eq_true e)
    · exact of_decide_eq_true (h2.symm ▸ decide_eq_true e)
  omega
theorem darts_nodup (X : List Cr) : (darts X).Nodup := by
  unfold darts
  rw [List.Nodup, List.pairwise_map]
  exact List.Pairwise.imp (fun hne e => hne (dart_inj e)) (List.nodup_range)
theorem mem_darts {X : List Cr} {d : Dt} : d ∈ darts X ↔ isArc X d.1 := by
  unfold darts isArc nArcs
  rw [List.mem_map]
  constructor
  · rintro ⟨k, hk, rfl⟩
    rw [List.mem_range] at hk
    unfold dart; simp only; omega
  · rintro ⟨h1, h2⟩
    obtain ⟨a, b⟩ := d
    refine ⟨2 * (a - 1) + if b then 1 else 0, List.mem_range.2 (by cases b <;> simp <;> simp only at h2 <;> omega), ?_⟩
    unfold dart
    cases b <;> simp <;> simp only at h1 <;> omega
theorem darts_length (X : List Cr) : (darts X).length = 4 * X.length := by simp [darts]
theorem mem_arcs {X : List Cr} {a : Nat} : a ∈ arcs X ↔ isArc X a := by
  unfold arcs isArc
  rw [List.mem_map]
  constructor
  · rintro ⟨k, hk, rfl⟩
    rw [List.mem_range] at hk; omega
  · rintro ⟨h1, h2⟩
    exact ⟨a - 1, List.mem_range.2 (by omega), by omega⟩
theorem arcs_nodup (X : List Cr) : (arcs X).Nodup := by
  unfold arcs
  rw [List.Nodup, List.pairwise_map]
  exact List.Pairwise.imp (fun hne e => hne (by omega)) (List.nodup_range)
theorem arcs_length (X : List Cr) : (arcs X).length = nArcs X := by simp [arcs]
theorem faces_perm {X : List Cr} (h : Ok X) : (facesL X).flatten.Perm (darts X) :=
  rings_perm _ (darts_nodup X) (fun d hd => mem_darts.2 (h.isArc_left (mem_darts.1 hd))) (by omega)
theorem strands_perm {X : List Cr} (h : Ok X) : (strandsL X).flatten.Perm (arcs X) :=
  rings_perm _ (arcs_nodup X) (fun d hd => mem_arcs.2 (h.isArc_next (mem_arcs.1 hd))) (by omega)

def trefoil : List Cr := [⟨1, 4, 2, 5, false⟩, ⟨3, 6, 4, 1, false⟩, ⟨5, 2, 6, 3, false⟩]
theorem trefoil_ok : okB trefoil = true := by decide
theorem trefoil_faces : (facesL trefoil).length = 5 := by decide
theorem trefoil_strands : strandsL trefoil = [[1, 2, 3, 4, 5, 6]] := by decide
end Go.Proofs.Ytgjmjbgicfkojaa.Kn
