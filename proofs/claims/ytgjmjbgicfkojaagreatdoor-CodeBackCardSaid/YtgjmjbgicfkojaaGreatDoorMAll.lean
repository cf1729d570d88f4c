/- Plain mathematics of diagrams, joined. -/
import Derived.Lib.Join
import Derived.Lib.ItoaNum
import Derived.Lib.Split
import Derived.Lib.SplitLaws
import Derived.Lib.IndexBytes
import Derived.Lib.Strings
import Derived.Lib.Atoi
/- Rings of a list, of which each member has a next one: plain mathematics. -/
namespace Go.Proofs.YtgjmjbgicfkojaaGreatDoor.Kn

section
variable {α : Type} [DecidableEq α] (nx : α → α)
def ring : Nat → List α → α → List α
  | 0, _, _ => []
  | k + 1, seen, x => if x ∈ seen then [] else x :: ring k (seen ++ [x]) (nx x)
def rings (N : Nat) : List α → List α → List (List α)
  | _, [] => []
  | seen, d :: ds => if d ∈ seen then rings N seen ds else ring nx N seen d :: rings N (seen ++ ring nx N seen d) ds

theorem ring_seen {k : Nat} {seen : List α} {x : α} (h : x ∈ seen) : ring nx k seen x = [] := by
  cases k with
  | zero => rfl
  | succ k => rw [ring, if_pos h]
theorem ring_new {k : Nat} {seen : List α} {x : α} (h : x ∉ seen) : ring nx (k + 1) seen x = x :: ring nx k (seen ++ [x]) (nx x) := by rw [ring, if_neg h]
theorem rings_nil (N : Nat) (seen : List α) : rings nx N seen [] = [] := by rw [rings]
theorem rings_seen {N : Nat} {seen ds : List α} {d : α} (h : d ∈ seen) : rings nx N seen (d :: ds) = rings nx N seen ds := by rw [rings, if_pos h]
theorem rings_new {N : Nat} {seen ds : List α} {d : α} (h : d ∉ seen) : rings nx N seen (d :: ds) = ring nx N seen d :: rings nx N (seen ++ ring nx N seen d) ds := by rw [rings, if_neg h]

/- a duplicate-free list within another one is no longer -/
theorem nodup_le : ∀ {l m : List α}, l.Nodup → (∀ x ∈ l, x ∈ m) → l.length ≤ m.length
  | [], _, _, _ => Nat.zero_le _
  | a :: l, m, hn, hs => by
    have ha : a ∈ m := hs a (by simp)
    rw [List.nodup_cons] at hn
    have h1 : l.length ≤ (m.erase a).length := nodup_le hn.2 fun x hx => by
      have hne : x ≠ a := fun e => hn.1 (e ▸ hx)
      exact (List.mem_erase_of_ne hne).2 (hs x (by simp [hx]))
    rw [List.length_erase_of_mem ha] at h1
    have h2 : 0 < m.length := List.length_pos_of_mem ha
    simp only [List.length_cons]; omega
theorem fuel {l m : List α} {x : α} (hn : l.Nodup) (hs : ∀ y ∈ l, y ∈ m) (hx : x ∉ l) (hm : x ∈ m) : l.length + 1 ≤ m.length := by
  have := nodup_le (l := x :: l) (m := m) (List.nodup_cons.2 ⟨hx, hn⟩) (fun y hy => by
    rcases List.mem_cons.1 hy with rfl | h
    · exact hm
    · exact hs y h)
  simpa using this
omit [DecidableEq α] in
theorem nodup_snoc {l : List α} {x : α} (hn : l.Nodup) (hx : x ∉ l) : (l ++ [x]).Nodup := by
  rw [List.nodup_append]
  exact ⟨hn, by simp, fun a ha b hb => by
    rw [List.mem_singleton] at hb; subst hb; exact fun e => hx (e ▸ ha)⟩

/- what a ring is: it adds what is new, no one twice -/
theorem ring_nodup : ∀ (k : Nat) {seen : List α} (x : α), seen.Nodup → (seen ++ ring nx k seen x).Nodup
  | 0, seen, x, h => by rw [ring]; simpa using h
  | k + 1, seen, x, h => by
    by_cases c : x ∈ seen
    · rw [ring_seen nx c]; simpa using h
    · rw [ring_new nx c]
      have := ring_nodup k (seen := seen ++ [x]) (nx x) (nodup_snoc h c)
      simpa using this
theorem ring_sub {all : List α} (hall : ∀ x ∈ all, nx x ∈ all) : ∀ (k : Nat) (seen : List α) {x : α}, x ∈ all → ∀ y ∈ ring nx k seen x, y ∈ all
  | 0, seen, x, h, y, hy => by rw [ring] at hy; cases hy
  | k + 1, seen, x, h, y, hy => by
    by_cases c : x ∈ seen
    · rw [ring_seen nx c] at hy; cases hy
    · rw [ring_new nx c] at hy
      rcases List.mem_cons.1 hy with rfl | hy
      · exact h
      · exact ring_sub hall k _ (hall x h) y hy
theorem ring_head {k : Nat} {seen : List α} {x : α} (h : x ∉ seen) (hk : 0 < k) : x ∈ ring nx k seen x := by
  obtain ⟨j, rfl⟩ : ∃ j, k = j + 1 := ⟨k - 1, by omega⟩
  rw [ring_new nx h]; simp
theorem rings_nodup (N : Nat) : ∀ (ds : List α) {seen : List α}, seen.Nodup → (seen ++ (rings nx N seen ds).flatten).Nodup
  | [], seen, h => by rw [rings]; simpa using h
  | d :: ds, seen, h => by
    by_cases c : d ∈ seen
    · rw [rings_seen nx c]; exact rings_nodup N ds h
    · rw [rings_new nx c, List.flatten_cons, ← List.append_assoc]
      exact rings_nodup N ds (ring_nodup nx N d h)
theorem rings_sub {all : List α} (hall : ∀ x ∈ all, nx x ∈ all) (N : Nat) : ∀ (ds : List α) (seen : List α), (∀ d ∈ ds, d ∈ all) → ∀ y ∈ (rings nx N seen ds).flatten, y ∈ all
  | [], seen, _, y, hy => by rw [rings] at hy; cases hy
  | d :: ds, seen, h, y, hy => by
    by_cases c : d ∈ seen
    · rw [rings_seen nx c] at hy
      exact rings_sub hall N ds seen (fun x hx => h x (by simp [hx])) y hy
    · rw [rings_new nx c, List.flatten_cons, List.mem_append] at hy
      rcases hy with hy | hy
      · exact ring_sub nx hall N seen (h d (by simp)) y hy
      · exact rings_sub hall N ds _ (fun x hx => h x (by simp [hx])) y hy
theorem rings_cover {N : Nat} (hN : 0 < N) : ∀ (ds : List α) (seen : List α) {x : α}, (x ∈ seen ∨ x ∈ ds) → x ∈ seen ++ (rings nx N seen ds).flatten
  | [], seen, x, h => by
    rw [rings]
    rcases h with h | h
    · simp [h]
    · cases h
  | d :: ds, seen, x, h => by
    by_cases c : d ∈ seen
    · rw [rings_seen nx c]
      refine rings_cover hN ds seen ?_
      rcases h with h | h
      · exact .inl h
      · rcases List.mem_cons.1 h with rfl | h
        · exact .inl c
        · exact .inr h
    · rw [rings_new nx c, List.flatten_cons, ← List.append_assoc]
      refine rings_cover hN ds _ ?_
      rcases h with h | h
      · exact .inl (by simp [h])
      · rcases List.mem_cons.1 h with rfl | h
        · exact .inl (List.mem_append.2 (.inr (ring_head nx c hN)))
        · exact .inr h
theorem rings_len (N : Nat) : ∀ (ds seen : List α), (rings nx N seen ds).length ≤ ds.length
  | [], seen => by rw [rings]; exact Nat.le_refl _
  | d :: ds, seen => by
    by_cases c : d ∈ seen
    · rw [rings_seen nx c]; have := rings_len N ds seen; simp only [List.length_cons]; omega
    · rw [rings_new nx c]; have := rings_len N ds (seen ++ ring nx N seen d); simp only [List.length_cons]; omega
/- the rings of all: each once -/
theorem rings_perm {all : List α} (hn : all.Nodup) (hall : ∀ x ∈ all, nx x ∈ all) {N : Nat} (hN : 0 < N) : (rings nx N [] all).flatten.Perm all := by
  have h1 := rings_nodup nx N all (seen := []) (by simp)
  have h2 := rings_sub nx hall N all [] (fun d h => h)
  have h3 := fun x hx => rings_cover nx hN all [] (x := x) (.inr hx)
  rw [List.nil_append] at h1
  refine (List.perm_ext_iff_of_nodup h1 hn).2 fun x => ⟨h2 x, fun hx => ?_⟩
  have := h3 x hx
  rwa [List.nil_append] at this
/- none of them is empty -/
theorem rings_ne {N : Nat} (hN : 0 < N) : ∀ (ds : List α) (seen : List α), ∀ r ∈ rings nx N seen ds, r ≠ []
  | [], seen, r, h => by rw [rings] at h; cases h
  | d :: ds, seen, r, h => by
    by_cases c : d ∈ seen
    · rw [rings_seen nx c] at h
      exact rings_ne hN ds seen r h
    · rw [rings_new nx c] at h
      rcases List.mem_cons.1 h with rfl | h
      · exact List.ne_nil_of_mem (ring_head nx c hN)
      · exact rings_ne hN ds _ r h
end
end Go.Proofs.YtgjmjbgicfkojaaGreatDoor.Kn

/- Diagrams as lists of crossings: places, arcs, what may be: plain mathematics. -/
namespace Go.Proofs.YtgjmjbgicfkojaaGreatDoor.Kn

structure Cr where
  a : Int
  b : Int
  c : Int
  d : Int
  p : Bool
deriving DecidableEq, Inhabited

def Cr.arc (x : Cr) (s : Nat) : Int := if s = 0 then x.a else if s = 1 then x.b else if s = 2 then x.c else x.d
def over (p : Bool) : Nat := if p then 3 else 1
def Cr.comes (x : Cr) (s : Nat) : Bool := decide (s = 0) || decide (s = over x.p)
abbrev Pl := Nat × Nat
def cr (X : List Cr) (c : Nat) : Cr := X.getD c default
def at_ (X : List Cr) (p : Pl) : Int := (cr X p.1).arc p.2
def cm (X : List Cr) (p : Pl) : Bool := (cr X p.1).comes p.2
/- the k-th place -/
def pl (k : Nat) : Pl := (k / 4, k % 4)
theorem pl_mk {c s : Nat} (hs : s < 4) : pl (c * 4 + s) = (c, s) := by
  unfold pl; rw [show (c * 4 + s) / 4 = c by omega, show (c * 4 + s) % 4 = s by omega]
theorem pl_inj {j k : Nat} (h : pl j = pl k) : j = k := by
  unfold pl at h
  injection h with h1 h2
  omega
def pk (p : Pl) : Nat := p.1 * 4 + p.2
theorem pl_pk {p : Pl} (h : p.2 < 4) : pl (pk p) = p := pl_mk h

/- how often an arc comes in (goes out) at the first k places, and where last -/
def cnt (X : List Cr) (io : Bool) : Nat → Nat → Nat
  | 0, _ => 0
  | k + 1, a => cnt X io k a + if cm X (pl k) = io ∧ at_ X (pl k) = a then 1 else 0
def last (X : List Cr) (io : Bool) : Nat → Nat → Pl
  | 0, _ => (0, 0)
  | k + 1, a => if cm X (pl k) = io ∧ at_ X (pl k) = a then pl k else last X io k a
theorem cnt_succ (X : List Cr) (io : Bool) (k a : Nat) : cnt X io (k + 1) a = cnt X io k a + if cm X (pl k) = io ∧ at_ X (pl k) = a then 1 else 0 := rfl
theorem last_succ (X : List Cr) (io : Bool) (k a : Nat) : last X io (k + 1) a = if cm X (pl k) = io ∧ at_ X (pl k) = a then pl k else last X io k a := rfl
theorem cnt_le (X : List Cr) (io : Bool) (a : Nat) : ∀ k, cnt X io k a ≤ k
  | 0 => Nat.le_refl _
  | k + 1 => by
    have := cnt_le X io a k
    rw [cnt_succ]; split <;> omega
def nArcs (X : List Cr) : Nat := 2 * X.length
/- arcs in range; each comes in once and goes out once -/
def inRange (X : List Cr) (k : Nat) : Prop := ∀ j, j < k → 1 ≤ at_ X (pl j) ∧ at_ X (pl j) ≤ (nArcs X : Int)
def once (X : List Cr) (m : Nat) : Prop := ∀ a, 1 ≤ a → a ≤ m → cnt X true (4 * X.length) a = 1 ∧ cnt X false (4 * X.length) a = 1
def okB (X : List Cr) : Bool :=
  (List.range (4 * X.length)).all (fun j => decide (1 ≤ at_ X (pl j)) && decide (at_ X (pl j) ≤ (nArcs X : Int))) &&
  (List.range (nArcs X)).all (fun a => decide (cnt X true (4 * X.length) (a + 1) = 1) && decide (cnt X false (4 * X.length) (a + 1) = 1))
theorem okB_iff (X : List Cr) : okB X = true ↔ inRange X (4 * X.length) ∧ once X (nArcs X) := by
  unfold okB inRange once
  simp only [Bool.and_eq_true, List.all_eq_true, List.mem_range, decide_eq_true_eq]
  refine and_congr Iff.rfl ⟨fun h a h1 h2 => ?_, fun h a h1 => h (a + 1) (by omega) (by omega)⟩
  have := h (a - 1) (by omega)
  rwa [show a - 1 + 1 = a by omega] at this
def mayB (X : List Cr) (L : Int) : Bool := decide (X.length ≤ 16) && decide (0 ≤ L) && decide (L ≤ 16) && !(decide (X.length = 0) && decide (L = 0)) && okB X

/- the last place found is one, if there is one -/
theorem last_of {X : List Cr} {io : Bool} {a : Nat} : ∀ {k : Nat}, 1 ≤ cnt X io k a → ∃ j, j < k ∧ last X io k a = pl j ∧ cm X (pl j) = io ∧ at_ X (pl j) = a
  | 0, h => by simp [cnt] at h
  | k + 1, h => by
    rw [cnt_succ] at h
    rw [last_succ]
    by_cases c : cm X (pl k) = io ∧ at_ X (pl k) = a
    · rw [if_pos c]; exact ⟨k, by omega, rfl, c⟩
    · rw [if_neg c] at h ⊢
      obtain ⟨j, hj, r⟩ := last_of (k := k) (by omega)
      exact ⟨j, by omega, r⟩
theorem cnt_pos {X : List Cr} {io : Bool} {a : Nat} : ∀ {k j : Nat}, j < k → cm X (pl j) = io → at_ X (pl j) = a → 1 ≤ cnt X io k a
  | k + 1, j, hj, h1, h2 => by
    rw [cnt_succ]
    by_cases c : j = k
    · subst c; rw [if_pos ⟨h1, h2⟩]; omega
    · have := cnt_pos (k := k) (j := j) (by omega) h1 h2; omega
theorem cnt_two {X : List Cr} {io : Bool} {a : Nat} : ∀ {k i j : Nat}, i < j → j < k → cm X (pl i) = io → at_ X (pl i) = a → cm X (pl j) = io → at_ X (pl j) = a → 2 ≤ cnt X io k a
  | k + 1, i, j, hij, hj, h1, h2, h3, h4 => by
    rw [cnt_succ]
    by_cases c : j = k
    · subst c
      have := cnt_pos (k := j) hij h1 h2
      rw [if_pos ⟨h3, h4⟩]; omega
    · have := cnt_two (k := k) hij (by omega) h1 h2 h3 h4; omega

/- places of a diagram -/
def isPl (X : List Cr) (p : Pl) : Prop := p.1 < X.length ∧ p.2 < 4
def inP (X : List Cr) (a : Nat) : Pl := last X true (4 * X.length) a
def outP (X : List Cr) (a : Nat) : Pl := last X false (4 * X.length) a
def endP (X : List Cr) (io : Bool) (a : Nat) : Pl := last X io (4 * X.length) a
structure Ok (X : List Cr) : Prop where
  rng : ∀ p, isPl X p → 1 ≤ at_ X p ∧ at_ X p ≤ (nArcs X : Int)
  end_ : ∀ (io : Bool) (a : Nat), 1 ≤ a → a ≤ nArcs X → isPl X (endP X io a) ∧ cm X (endP X io a) = io ∧ at_ X (endP X io a) = a
  uniq : ∀ p q, isPl X p → isPl X q → cm X p = cm X q → at_ X p = at_ X q → p = q
theorem isPl_pl {X : List Cr} {j : Nat} (h : j < 4 * X.length) : isPl X (pl j) := ⟨by unfold pl; simp only; omega, by unfold pl; simp only; omega⟩
theorem pk_lt {X : List Cr} {p : Pl} (h : isPl X p) : pk p < 4 * X.length := by
  unfold pk; have := h.1; have := h.2; omega
theorem ok_iff (X : List Cr) : okB X = true ↔ Ok X := by
  rw [okB_iff]
  constructor
  · rintro ⟨h1, h2⟩
    have hr : ∀ p, isPl X p → 1 ≤ at_ X p ∧ at_ X p ≤ (nArcs X : Int) := fun p hp => by
      have := h1 (pk p) (pk_lt hp)
      rwa [pl_pk hp.2] at this
    refine ⟨hr, fun io a ha hb => ?_, fun p q hp hq hc ha => ?_⟩
    · have h3 : 1 ≤ cnt X io (4 * X.length) a := by
        have := h2 a ha hb
        cases io <;> omega
      obtain ⟨j, hj, e, e1, e2⟩ := last_of h3
      unfold endP
      rw [e]
      exact ⟨isPl_pl hj, e1, e2⟩
    · obtain ⟨h3, h4⟩ := hr p hp
      obtain ⟨n, hn⟩ : ∃ n : Nat, at_ X p = n := ⟨(at_ X p).toNat, by omega⟩
      have h5 := h2 n (by omega) (by omega)
      have h6 : cnt X (cm X p) (4 * X.length) n = 1 := by cases cm X p <;> first | exact h5.2 | exact h5.1
      rcases Nat.lt_trichotomy (pk p) (pk q) with c | c | c
      · have := cnt_two (X := X) (io := cm X p) (a := n) c (pk_lt hq) (by rw [pl_pk hp.2]) (by rw [pl_pk hp.2]; exact hn) (by rw [pl_pk hq.2]; exact hc.symm) (by rw [pl_pk hq.2, ← ha]; exact hn)
        omega
      · have : pl (pk p) = pl (pk q) := by rw [c]
        rwa [pl_pk hp.2, pl_pk hq.2] at this
      · have := cnt_two (X := X) (io := cm X p) (a := n) c (pk_lt hp) (by rw [pl_pk hq.2]; exact hc.symm) (by rw [pl_pk hq.2, ← ha]; exact hn) (by rw [pl_pk hp.2]) (by rw [pl_pk hp.2]; exact hn)
        omega
  · intro h
    refine ⟨fun j hj => h.rng _ (isPl_pl hj), fun a ha hb => ?_⟩
    have key : ∀ io, cnt X io (4 * X.length) a = 1 := fun io => by
      obtain ⟨h1, h2, h3⟩ := h.end_ io a ha hb
      have hp : 1 ≤ cnt X io (4 * X.length) a := cnt_pos (pk_lt h1) (by rw [pl_pk h1.2]; exact h2) (by rw [pl_pk h1.2]; exact h3)
      have hu : ∀ k, k ≤ 4 * X.length → cnt X io k a ≤ if pk (endP X io a) < k then 1 else 0 := by
        intro k
        induction k with
        | zero => intro _; simp [cnt]
        | succ k ih =>
          intro hk
          have h4 := ih (by omega)
          rw [cnt_succ]
          by_cases c : cm X (pl k) = io ∧ at_ X (pl k) = a
          · have : pl k = endP X io a := h.uniq _ _ (isPl_pl (by omega)) h1 (c.1.trans h2.symm) (c.2.trans h3.symm)
            have e : k = pk (endP X io a) := by
              rw [← this]; unfold pk pl; simp only; omega
            rw [← e] at h4 ⊢
            rw [if_neg (by omega)] at h4
            rw [if_pos c, if_pos (by omega)]; omega
          · rw [if_neg c]
            split at h4 <;> split <;> omega
      have := hu _ (Nat.le_refl _)
      split at this <;> omega
    exact ⟨key true, key false⟩
instance (X : List Cr) : Decidable (Ok X) := decidable_of_iff _ (ok_iff X)

/- the arc at a place, as a number; the place at its other end; the next arc of a strand; the dart to the left -/
def arcN (X : List Cr) (p : Pl) : Nat := (at_ X p).toNat
def other (X : List Cr) (p : Pl) : Pl := endP X (!cm X p) (arcN X p)
def nextA (X : List Cr) (a : Nat) : Nat := arcN X ((endP X true a).1, ((endP X true a).2 + 2) % 4)
abbrev Dt := Nat × Bool
def head (X : List Cr) (d : Dt) : Pl := endP X (!d.2) d.1
def left (X : List Cr) (d : Dt) : Dt := (arcN X ((head X d).1, ((head X d).2 + 3) % 4), cm X ((head X d).1, ((head X d).2 + 3) % 4))
def isArc (X : List Cr) (a : Nat) : Prop := 1 ≤ a ∧ a ≤ nArcs X
section
variable {X : List Cr}
theorem Ok.arcN_eq (h : Ok X) {p : Pl} (hp : isPl X p) : ((arcN X p : Nat) : Int) = at_ X p := by
  have := h.rng p hp; unfold arcN; omega
theorem Ok.isArc (h : Ok X) {p : Pl} (hp : isPl X p) : isArc X (arcN X p) := by
  have := h.rng p hp; have := h.arcN_eq hp; unfold Kn.isArc; omega
theorem Ok.isPl_end (h : Ok X) {io : Bool} {a : Nat} (ha : Kn.isArc X a) : isPl X (endP X io a) := (h.end_ io a ha.1 ha.2).1
theorem Ok.cm_end (h : Ok X) {io : Bool} {a : Nat} (ha : Kn.isArc X a) : cm X (endP X io a) = io := (h.end_ io a ha.1 ha.2).2.1
theorem Ok.at_end (h : Ok X) {io : Bool} {a : Nat} (ha : Kn.isArc X a) : at_ X (endP X io a) = a := (h.end_ io a ha.1 ha.2).2.2
theorem Ok.arc_end (h : Ok X) {io : Bool} {a : Nat} (ha : Kn.isArc X a) : arcN X (endP X io a) = a := by
  unfold arcN; rw [h.at_end ha]; rfl
theorem Ok.end_eq (h : Ok X) {p : Pl} (hp : isPl X p) : endP X (cm X p) (arcN X p) = p :=
  h.uniq _ _ (h.isPl_end (h.isArc hp)) hp (h.cm_end (h.isArc hp)) (by rw [h.at_end (h.isArc hp), h.arcN_eq hp])
theorem Ok.isPl_other (h : Ok X) {p : Pl} (hp : isPl X p) : isPl X (other X p) := h.isPl_end (h.isArc hp)
theorem Ok.cm_other (h : Ok X) {p : Pl} (hp : isPl X p) : cm X (other X p) = !cm X p := h.cm_end (h.isArc hp)
theorem Ok.arc_other (h : Ok X) {p : Pl} (hp : isPl X p) : arcN X (other X p) = arcN X p := h.arc_end (h.isArc hp)
theorem Ok.other_other (h : Ok X) {p : Pl} (hp : isPl X p) : other X (other X p) = p := by
  have h1 := h.end_eq hp
  show endP X (!cm X (other X p)) (arcN X (other X p)) = p
  rw [h.cm_other hp, h.arc_other hp, Bool.not_not, h1]
theorem isPl_turn {p : Pl} (hp : isPl X p) (k : Nat) : isPl X (p.1, (p.2 + k) % 4) := ⟨hp.1, Nat.mod_lt _ (by omega)⟩
theorem Ok.isArc_next (h : Ok X) {a : Nat} (ha : Kn.isArc X a) : Kn.isArc X (nextA X a) := h.isArc (isPl_turn (h.isPl_end ha) 2)
theorem Ok.isPl_head (h : Ok X) {d : Dt} (ha : Kn.isArc X d.1) : isPl X (head X d) := h.isPl_end ha
theorem Ok.isArc_left (h : Ok X) {d : Dt} (ha : Kn.isArc X d.1) : Kn.isArc X (left X d).1 := h.isArc (isPl_turn (h.isPl_head ha) 3)
end

/- all darts in order; faces; strands -/
def dart (k : Nat) : Dt := (k / 2 + 1, decide (k % 2 = 1))
def darts (X : List Cr) : List Dt := (List.range (4 * X.length)).map dart
def facesL (X : List Cr) : List (List Dt) := rings (left X) (4 * X.length + 1) [] (darts X)
def arcs (X : List Cr) : List Nat := (List.range (nArcs X)).map (· + 1)
def strandsL (X : List Cr) : List (List Nat) := rings (nextA X) (nArcs X + 1) [] (arcs X)
theorem dart_inj {j k : Nat} (h : dart j = dart k) : j = k := by
  unfold dart at h
  injection h with h1 h2
  have : (j % 2 = 1) ↔ (k % 2 = 1) := by
    constructor <;> intro e
    · exact of_decide_eq_true (h2 ▸ decide_eq_true e)
    · exact of_decide_eq_true (h2.symm ▸ decide_eq_true e)
  omega
theorem darts_nodup (X : List Cr) : (darts X).Nodup := by
  unfold darts
  rw [List.Nodup, List.pairwise_map]
  exact List.Pairwise.imp (fun hne e => hne (dart_inj e)) (List.nodup_range)
theorem mem_darts {X : List Cr} {d : Dt} : d ∈ darts X ↔ isArc X d.1 := by
  unfold darts isArc nArcs
  rw [List.mem_map]
  constructor
  · rintro ⟨k, hk, rfl⟩
    rw [List.mem_range] at hk
    unfold dart; simp only; omega
  · rintro ⟨h1, h2⟩
    obtain ⟨a, b⟩ := d
    refine ⟨2 * (a - 1) + if b then 1 else 0, List.mem_range.2 (by cases b <;> simp <;> simp only at h2 <;> omega), ?_⟩
    unfold dart
    cases b <;> simp <;> simp only at h1 <;> omega
theorem darts_length (X : List Cr) : (darts X).length = 4 * X.length := by simp [darts]
theorem mem_arcs {X : List Cr} {a : Nat} : a ∈ arcs X ↔ isArc X a := by
  unfold arcs isArc
  rw [List.mem_map]
  constructor
  · rintro ⟨k, hk, rfl⟩
    rw [List.mem_range] at hk; omega
  · rintro ⟨h1, h2⟩
    exact ⟨a - 1, List.mem_range.2 (by omega), by omega⟩
theorem arcs_nodup (X : List Cr) : (arcs X).Nodup := by
  unfold arcs
  rw [List.Nodup, List.pairwise_map]
  exact List.Pairwise.imp (fun hne e => hne (by omega)) (List.nodup_range)
theorem arcs_length (X : List Cr) : (arcs X).length = nArcs X := by simp [arcs]
theorem faces_perm {X : List Cr} (h : Ok X) : (facesL X).flatten.Perm (darts X) :=
  rings_perm _ (darts_nodup X) (fun d hd => mem_darts.2 (h.isArc_left (mem_darts.1 hd))) (by omega)
theorem strands_perm {X : List Cr} (h : Ok X) : (strandsL X).flatten.Perm (arcs X) :=
  rings_perm _ (arcs_nodup X) (fun d hd => mem_arcs.2 (h.isArc_next (mem_arcs.1 hd))) (by omega)

def trefoil : List Cr := [⟨1, 4, 2, 5, false⟩, ⟨3, 6, 4, 1, false⟩, ⟨5, 2, 6, 3, false⟩]
theorem trefoil_ok : okB trefoil = true := by decide
theorem trefoil_faces : (facesL trefoil).length = 5 := by decide
theorem trefoil_strands : strandsL trefoil = [[1, 2, 3, 4, 5, 6]] := by decide
end Go.Proofs.YtgjmjbgicfkojaaGreatDoor.Kn

/- Pieces of a diagram, and a piece as seen from a crossing: plain mathematics. -/
namespace Go.Proofs.YtgjmjbgicfkojaaGreatDoor.Kn

section
variable (nb : Nat → List Nat) (seen : List Nat)
def addN : List Nat → List Nat → List Nat
  | l, [] => l
  | l, k :: ks => addN (if k ∈ seen ∨ k ∈ l then l else l ++ [k]) ks
def grow : Nat → Nat → List Nat → List Nat
  | 0, _, l => l
  | k + 1, i, l => if i < l.length then grow k (i + 1) (addN seen l (nb (l.getD i 0))) else l
inductive Conn : Nat → Nat → Prop
  | refl (c : Nat) : Conn c c
  | step {c d e : Nat} : Conn c d → e ∈ nb d → Conn c e
variable {nb seen}
theorem Conn.trans {c d e : Nat} (h : Conn nb c d) (k : Conn nb d e) : Conn nb c e := by
  induction k with
  | refl => exact h
  | step _ he ih => exact .step ih he
theorem Conn.symm (hs : ∀ x y, y ∈ nb x → x ∈ nb y) {c d : Nat} (h : Conn nb c d) : Conn nb d c := by
  induction h with
  | refl => exact .refl _
  | step _ he ih => exact (Conn.step (.refl _) (hs _ _ he)).trans ih
theorem mem_one {l : List Nat} {k x : Nat} : x ∈ (if k ∈ seen ∨ k ∈ l then l else l ++ [k]) ↔ x ∈ l ∨ (x = k ∧ k ∉ seen) := by
  split
  · next h =>
    constructor
    · exact .inl
    · rintro (h1 | ⟨rfl, h2⟩)
      · exact h1
      · exact h.resolve_left h2
  · next h =>
    rw [List.mem_append, List.mem_singleton]
    constructor
    · rintro (h1 | rfl)
      · exact .inl h1
      · exact .inr ⟨rfl, fun e => h (.inl e)⟩
    · rintro (h1 | ⟨rfl, _⟩)
      · exact .inl h1
      · exact .inr rfl
theorem mem_addN : ∀ {ks l : List Nat} {x : Nat}, x ∈ addN seen l ks ↔ x ∈ l ∨ (x ∈ ks ∧ x ∉ seen)
  | [], l, x => by rw [addN]; simp
  | k :: ks, l, x => by
    rw [addN, mem_addN, mem_one, List.mem_cons]
    constructor
    · rintro ((h | ⟨rfl, h⟩) | ⟨h, h2⟩)
      · exact .inl h
      · exact .inr ⟨.inl rfl, h⟩
      · exact .inr ⟨.inr h, h2⟩
    · rintro (h | ⟨rfl | h, h2⟩)
      · exact .inl (.inl h)
      · exact .inl (.inr ⟨rfl, h2⟩)
      · exact .inr ⟨h, h2⟩
theorem one_pre (l : List Nat) (k : Nat) : l <+: (if k ∈ seen ∨ k ∈ l then l else l ++ [k]) := by
  split
  · exact List.prefix_refl _
  · exact List.prefix_append _ _
theorem addN_pre : ∀ (ks l : List Nat), l <+: addN seen l ks
  | [], l => by rw [addN]; exact List.prefix_refl _
  | k :: ks, l => by rw [addN]; exact (one_pre l k).trans (addN_pre ks _)
theorem one_nodup {l : List Nat} (h : l.Nodup) (k : Nat) : (if k ∈ seen ∨ k ∈ l then l else l ++ [k]).Nodup := by
  split
  · exact h
  · next c => exact nodup_snoc h fun e => c (.inr e)
theorem addN_nodup : ∀ (ks : List Nat) {l : List Nat}, l.Nodup → (addN seen l ks).Nodup
  | [], l, h => by rw [addN]; exact h
  | k :: ks, l, h => by rw [addN]; exact addN_nodup ks (one_nodup h k)
theorem grow_pre : ∀ (k i : Nat) (l : List Nat), l <+: grow nb seen k i l
  | 0, _, l => by rw [grow]; exact List.prefix_refl _
  | k + 1, i, l => by
    rw [grow]; split
    · exact (addN_pre _ _).trans (grow_pre k _ _)
    · exact List.prefix_refl _
theorem grow_nodup : ∀ (k i : Nat) {l : List Nat}, l.Nodup → (grow nb seen k i l).Nodup
  | 0, _, l, h => by rw [grow]; exact h
  | k + 1, i, l, h => by
    rw [grow]; split
    · exact grow_nodup k _ (addN_nodup _ h)
    · exact h
theorem getD_mem {l : List Nat} {i : Nat} (h : i < l.length) : l.getD i 0 ∈ l := by
  rw [List.getD_eq_getElem?_getD, List.getElem?_eq_getElem h]; exact List.getElem_mem h
theorem grow_all {P : Nat → Prop} (hP : ∀ x, P x → ∀ y ∈ nb x, y ∉ seen → P y) : ∀ (k i : Nat) {l : List Nat}, (∀ x ∈ l, P x) → ∀ x ∈ grow nb seen k i l, P x
  | 0, _, l, h => by rw [grow]; exact h
  | k + 1, i, l, h => by
    rw [grow]; split
    · next c =>
      refine grow_all hP k _ fun x hx => ?_
      rcases mem_addN.1 hx with h1 | ⟨h1, h2⟩
      · exact h x h1
      · exact hP _ (h _ (getD_mem c)) x h1 h2
    · exact h
theorem grow_closed {m : List Nat} (hm : ∀ x ∈ m, ∀ y ∈ nb x, y ∈ m) : ∀ (k i : Nat) {l : List Nat}, l.Nodup → (∀ x ∈ l, x ∈ m) → (∀ j, j < i → j < l.length → ∀ y ∈ nb (l.getD j 0), y ∈ seen ∨ y ∈ l) → m.length + 1 ≤ k + i →
    ∀ x ∈ grow nb seen k i l, ∀ y ∈ nb x, y ∈ seen ∨ y ∈ grow nb seen k i l
  | 0, i, l, hn, hl, hc, hk, x, hx, y, hy => by
    rw [grow] at hx ⊢
    have := nodup_le hn hl
    obtain ⟨j, hj, rfl⟩ := List.getElem_of_mem hx
    refine hc j (by omega) hj y ?_
    rwa [List.getD_eq_getElem?_getD, List.getElem?_eq_getElem hj]
  | k + 1, i, l, hn, hl, hc, hk, x, hx, y, hy => by
    rw [grow] at hx ⊢
    by_cases c : i < l.length
    · rw [if_pos c] at hx ⊢
      refine grow_closed hm k (i + 1) (addN_nodup _ hn) (fun x hx => ?_) (fun j hj hjl y hy => ?_) (by omega) x hx y hy
      · rcases mem_addN.1 hx with h1 | ⟨h1, h2⟩
        · exact hl x h1
        · exact hm _ (hl _ (getD_mem c)) x h1
      · have hjl' : j < l.length := by omega
        have e : (addN seen l (nb (l.getD i 0))).getD j 0 = l.getD j 0 := by
          obtain ⟨t, ht⟩ := addN_pre (seen := seen) (nb (l.getD i 0)) l
          rw [← ht, List.getD_eq_getElem?_getD, List.getElem?_append_left hjl', List.getD_eq_getElem?_getD]
        rw [e] at hy
        by_cases d : y ∈ seen
        · exact .inl d
        · right
          rw [mem_addN]
          rcases Nat.lt_or_ge j i with c1 | c1
          · exact .inl ((hc j c1 hjl' y hy).resolve_left d)
          · obtain rfl : j = i := by omega
            exact .inr ⟨hy, d⟩
    · rw [if_neg c] at hx ⊢
      obtain ⟨j, hj, rfl⟩ := List.getElem_of_mem hx
      refine hc j (by omega) hj y ?_
      rwa [List.getD_eq_getElem?_getD, List.getElem?_eq_getElem hj]
/- a member that a walk finds, with no one seen: just those that hang together with the first -/
theorem grow_conn {m : List Nat} (hm : ∀ x ∈ m, ∀ y ∈ nb x, y ∈ m) {c : Nat} (hc : c ∈ m) (hs : ∀ x y, y ∈ nb x → x ∈ nb y) (hseen : ∀ x ∈ seen, ∀ y ∈ nb x, y ∈ seen) (hcs : c ∉ seen) {k : Nat} (hk : m.length + 1 ≤ k) {x : Nat} :
    x ∈ grow nb seen k 0 [c] ↔ Conn nb c x := by
  constructor
  · intro h
    refine grow_all (P := Conn nb c) (fun x hx y hy _ => .step hx hy) k 0 (l := [c]) (fun x hx => ?_) x h
    rw [List.mem_singleton] at hx; subst hx; exact .refl _
  · intro h
    have hcl := grow_closed (seen := seen) hm k 0 (l := [c]) (by simp) (fun x hx => by rw [List.mem_singleton] at hx; subst hx; exact hc) (fun j hj => by omega) (by omega)
    have hns : ∀ x ∈ grow nb seen k 0 [c], x ∉ seen := grow_all (P := fun x => x ∉ seen) (fun _ _ _ _ h => h) k 0 (l := [c]) (fun x hx => by rw [List.mem_singleton] at hx; subst hx; exact hcs)
    induction h with
    | refl => exact (grow_pre k 0 [c]).subset (by simp)
    | step hd he ih =>
      rcases hcl _ ih _ he with h1 | h1
      · exact absurd (hseen _ h1 _ (hs _ _ he)) (hns _ ih)
      · exact h1
end

/- numbers in order -/
def ins (x : Nat) : List Nat → List Nat
  | [] => [x]
  | y :: ys => if x ≤ y then x :: y :: ys else y :: ins x ys
def isort : List Nat → List Nat
  | [] => []
  | x :: xs => ins x (isort xs)
theorem ins_perm (x : Nat) : ∀ l, (ins x l).Perm (x :: l)
  | [] => .refl _
  | y :: ys => by
    rw [ins]; split
    · exact .refl _
    · exact ((ins_perm x ys).cons y).trans (.swap _ _ _)
theorem isort_perm : ∀ l, (isort l).Perm l
  | [] => .refl _
  | x :: xs => by rw [isort]; exact (ins_perm x _).trans ((isort_perm xs).cons x)
theorem ins_sorted (x : Nat) : ∀ {l : List Nat}, l.Pairwise (· ≤ ·) → (ins x l).Pairwise (· ≤ ·)
  | [], _ => by rw [ins]; simp
  | y :: ys, h => by
    rw [List.pairwise_cons] at h
    rw [ins]; split
    · next c =>
      rw [List.pairwise_cons, List.pairwise_cons]
      refine ⟨fun z hz => ?_, h⟩
      rcases List.mem_cons.1 hz with rfl | hz
      · exact c
      · exact Nat.le_trans c (h.1 z hz)
    · next c =>
      rw [List.pairwise_cons]
      refine ⟨fun z hz => ?_, ins_sorted x h.2⟩
      rcases List.mem_cons.1 ((ins_perm x ys).mem_iff.1 hz) with rfl | hz
      · omega
      · exact h.1 z hz
theorem isort_sorted : ∀ l, (isort l).Pairwise (· ≤ ·)
  | [] => by rw [isort]; simp
  | x :: xs => by rw [isort]; exact ins_sorted x (isort_sorted xs)
theorem isort_eq {l l' : List Nat} (hp : l'.Perm l) (hs : l'.Pairwise (· ≤ ·)) : l' = isort l :=
  (hp.trans (isort_perm l).symm).eq_of_pairwise (le := fun a b => a ≤ b) (fun _ _ _ _ h1 h2 => Nat.le_antisymm h1 h2) hs (isort_sorted l)

/- pieces -/
def nbs (X : List Cr) (c : Nat) : List Nat := [(other X (c, 0)).1, (other X (c, 1)).1, (other X (c, 2)).1, (other X (c, 3)).1]
def pieceOf (X : List Cr) (seen : List Nat) (c : Nat) : List Nat := grow (nbs X) seen (X.length + 1) 0 [c]
def piecesFrom (X : List Cr) : List Nat → List Nat → List (List Nat)
  | _, [] => []
  | seen, c :: cs => if c ∈ seen then piecesFrom X seen cs else isort (pieceOf X seen c) :: piecesFrom X (seen ++ pieceOf X seen c) cs
def piecesL (X : List Cr) : List (List Nat) := piecesFrom X [] (List.range X.length)
theorem piecesFrom_nil (X : List Cr) (seen : List Nat) : piecesFrom X seen [] = [] := by rw [piecesFrom]
theorem piecesFrom_seen {X : List Cr} {seen cs : List Nat} {c : Nat} (h : c ∈ seen) : piecesFrom X seen (c :: cs) = piecesFrom X seen cs := by rw [piecesFrom, if_pos h]
theorem piecesFrom_new {X : List Cr} {seen cs : List Nat} {c : Nat} (h : c ∉ seen) : piecesFrom X seen (c :: cs) = isort (pieceOf X seen c) :: piecesFrom X (seen ++ pieceOf X seen c) cs := by rw [piecesFrom, if_neg h]

section
variable {X : List Cr}
theorem mem_nbs {c e : Nat} : e ∈ nbs X c ↔ ∃ s, s < 4 ∧ e = (other X (c, s)).1 := by
  unfold nbs
  simp only [List.mem_cons, List.not_mem_nil, or_false]
  constructor
  · rintro (h | h | h | h)
    · exact ⟨0, by omega, h⟩
    · exact ⟨1, by omega, h⟩
    · exact ⟨2, by omega, h⟩
    · exact ⟨3, by omega, h⟩
  · rintro ⟨s, hs, h⟩
    match s, hs with
    | 0, _ => exact .inl h
    | 1, _ => exact .inr (.inl h)
    | 2, _ => exact .inr (.inr (.inl h))
    | 3, _ => exact .inr (.inr (.inr h))
theorem Ok.nbs_lt (h : Ok X) {c e : Nat} (hc : c < X.length) (he : e ∈ nbs X c) : e < X.length := by
  obtain ⟨s, hs, rfl⟩ := mem_nbs.1 he
  exact (h.isPl_other ⟨hc, hs⟩).1
/- within the diagram one hangs with the other just if the other with the one -/
theorem Ok.nbs_symm (h : Ok X) {c e : Nat} (hc : c < X.length) (he : e ∈ nbs X c) : c ∈ nbs X e := by
  obtain ⟨s, hs, rfl⟩ := mem_nbs.1 he
  have hp : isPl X (c, s) := ⟨hc, hs⟩
  refine mem_nbs.2 ⟨(other X (c, s)).2, (h.isPl_other hp).2, ?_⟩
  have := h.other_other hp
  rw [show ((other X (c, s)).1, (other X (c, s)).2) = other X (c, s) from rfl, this]
/- neighbours, of crossings alone -/
def nbc (X : List Cr) (c : Nat) : List Nat := if c < X.length then nbs X c else []
theorem Ok.nbc_symm (h : Ok X) : ∀ x y, y ∈ nbc X x → x ∈ nbc X y := by
  intro x y hy
  unfold nbc at hy ⊢
  by_cases c : x < X.length
  · rw [if_pos c] at hy
    rw [if_pos (h.nbs_lt c hy)]
    exact h.nbs_symm c hy
  · rw [if_neg c] at hy; cases hy
theorem grow_nbc (h : Ok X) {seen : List Nat} : ∀ (k i : Nat) {l : List Nat}, (∀ x ∈ l, x < X.length) → grow (nbs X) seen k i l = grow (nbc X) seen k i l
  | 0, _, l, _ => by rw [grow, grow]
  | k + 1, i, l, hl => by
    rw [grow, grow]
    by_cases c : i < l.length
    · have hx : l.getD i 0 < X.length := hl _ (getD_mem c)
      have e : nbc X (l.getD i 0) = nbs X (l.getD i 0) := by unfold nbc; rw [if_pos hx]
      rw [if_pos c, if_pos c, e]
      refine grow_nbc h k _ fun x hx' => ?_
      rcases mem_addN.1 hx' with h1 | ⟨h1, _⟩
      · exact hl x h1
      · exact h.nbs_lt hx h1
    · rw [if_neg c, if_neg c]
abbrev Con (X : List Cr) : Nat → Nat → Prop := Conn (nbc X)
theorem Ok.con_lt (h : Ok X) {c d : Nat} (hc : c < X.length) (k : Con X c d) : d < X.length := by
  induction k with
  | refl => exact hc
  | step hd he ih =>
    unfold nbc at he
    rw [if_pos ih] at he
    exact h.nbs_lt ih he
theorem Ok.mem_piece (h : Ok X) {seen : List Nat} {c : Nat} (hc : c < X.length) (hseen : ∀ x ∈ seen, ∀ y ∈ nbc X x, y ∈ seen) (hcs : c ∉ seen) {x : Nat} : x ∈ pieceOf X seen c ↔ Con X c x := by
  unfold pieceOf
  rw [grow_nbc h _ _ (by intro x hx; rw [List.mem_singleton] at hx; subst hx; exact hc)]
  refine grow_conn (m := List.range X.length) (fun x hx y hy => ?_) (List.mem_range.2 hc) h.nbc_symm hseen hcs (by simp)
  rw [List.mem_range] at hx ⊢
  unfold nbc at hy
  rw [if_pos hx] at hy
  exact h.nbs_lt hx hy
theorem pieceOf_nodup (X : List Cr) (seen : List Nat) (c : Nat) : (pieceOf X seen c).Nodup := grow_nodup _ _ (by simp)
/- the pieces: each sorted and all that hangs together with any of it; together each crossing once -/
structure IsPiece (X : List Cr) (l : List Nat) : Prop where
  ne : l ≠ []
  nodup : l.Nodup
  con : ∀ c ∈ l, c < X.length ∧ ∀ x, x ∈ l ↔ Con X c x
theorem Ok.piece (h : Ok X) {seen : List Nat} {c : Nat} (hc : c < X.length) (hseen : ∀ x ∈ seen, ∀ y ∈ nbc X x, y ∈ seen) (hcs : c ∉ seen) : IsPiece X (pieceOf X seen c) := by
  have hm := fun x => h.mem_piece hc hseen hcs (x := x)
  refine ⟨List.ne_nil_of_mem ((hm c).2 (.refl _)), pieceOf_nodup X seen c, fun d hd => ?_⟩
  have hcd := (hm d).1 hd
  refine ⟨h.con_lt hc hcd, fun x => ?_⟩
  rw [hm]
  exact ⟨fun k => (hcd.symm h.nbc_symm).trans k, fun k => hcd.trans k⟩
theorem IsPiece.perm {l l' : List Nat} (h : IsPiece X l) (hp : l'.Perm l) : IsPiece X l' :=
  ⟨fun e => h.ne (by subst e; exact hp.symm.eq_nil), hp.nodup_iff.2 h.nodup, fun c hc => ⟨(h.con c (hp.mem_iff.1 hc)).1, fun x => hp.mem_iff.trans ((h.con c (hp.mem_iff.1 hc)).2 x)⟩⟩
theorem Ok.pieces (h : Ok X) : ∀ (cs : List Nat) {seen : List Nat}, (∀ c ∈ cs, c < X.length) → (∀ x ∈ seen, ∀ y ∈ nbc X x, y ∈ seen) → seen.Nodup →
    (∀ l ∈ piecesFrom X seen cs, IsPiece X l) ∧ (seen ++ (piecesFrom X seen cs).flatten).Nodup ∧ (∀ x, x ∈ seen ∨ x ∈ cs → x ∈ seen ++ (piecesFrom X seen cs).flatten) ∧ ∀ x, x ∈ (piecesFrom X seen cs).flatten → x < X.length
  | [], seen, _, _, hn => by
    rw [piecesFrom_nil]
    simpa using hn
  | c :: cs, seen, hc, hs, hn => by
    by_cases d : c ∈ seen
    · rw [piecesFrom_seen d]
      obtain ⟨h1, h2, h3, h4⟩ := h.pieces cs (fun x hx => hc x (by simp [hx])) hs hn
      refine ⟨h1, h2, fun x hx => h3 x ?_, h4⟩
      rcases hx with hx | hx
      · exact .inl hx
      · rcases List.mem_cons.1 hx with rfl | hx
        · exact .inl d
        · exact .inr hx
    · have hcl : c < X.length := hc c (by simp)
      have hp := h.piece hcl hs d
      have hm := fun x => h.mem_piece hcl hs d (x := x)
      have hdis : ∀ x ∈ pieceOf X seen c, x ∉ seen := fun x hx hxs => by
        have : ∀ y, Con X x y → y ∈ seen := fun y hy => by
          induction hy with
          | refl => exact hxs
          | step _ he ih => exact hs _ ih _ he
        exact d (this c (((hm x).1 hx).symm h.nbc_symm))
      have hn' : (seen ++ pieceOf X seen c).Nodup := by
        rw [List.nodup_append]
        exact ⟨hn, hp.nodup, fun a ha b hb e => hdis b hb (e ▸ ha)⟩
      have hs' : ∀ x ∈ seen ++ pieceOf X seen c, ∀ y ∈ nbc X x, y ∈ seen ++ pieceOf X seen c := fun x hx y hy => by
        rw [List.mem_append] at hx ⊢
        rcases hx with hx | hx
        · exact .inl (hs x hx y hy)
        · exact .inr ((hm y).2 (.step ((hm x).1 hx) hy))
      obtain ⟨h1, h2, h3, h4⟩ := h.pieces cs (fun x hx => hc x (by simp [hx])) hs' hn'
      rw [piecesFrom_new d]
      have hperm : (seen ++ (isort (pieceOf X seen c) :: piecesFrom X (seen ++ pieceOf X seen c) cs).flatten).Perm (seen ++ pieceOf X seen c ++ (piecesFrom X (seen ++ pieceOf X seen c) cs).flatten) := by
        rw [List.flatten_cons, List.append_assoc]
        exact List.Perm.append_left _ (List.Perm.append_right _ (isort_perm _))
      refine ⟨fun l hl => ?_, hperm.nodup_iff.2 h2, fun x hx => hperm.mem_iff.2 (h3 x ?_), fun x hx => ?_⟩
      · rcases List.mem_cons.1 hl with rfl | hl
        · exact hp.perm (isort_perm _)
        · exact h1 l hl
      · rcases hx with hx | hx
        · exact .inl (by simp [hx])
        · rcases List.mem_cons.1 hx with rfl | hx
          · exact .inl (List.mem_append.2 (.inr ((hm _).2 (.refl _))))
          · exact .inr hx
      · rw [List.flatten_cons, List.mem_append] at hx
        rcases hx with hx | hx
        · exact (hp.con x ((isort_perm _).mem_iff.1 hx)).1
        · exact h4 x hx
theorem Ok.pieces_perm (h : Ok X) : (piecesL X).flatten.Perm (List.range X.length) := by
  obtain ⟨_, h2, h3, h4⟩ := h.pieces (List.range X.length) (seen := []) (fun c hc => List.mem_range.1 hc) (fun x hx => by cases hx) (by simp)
  rw [List.nil_append] at h2
  refine (List.perm_ext_iff_of_nodup h2 List.nodup_range).2 fun x => ⟨fun hx => List.mem_range.2 (h4 x hx), fun hx => ?_⟩
  have := h3 x (.inr hx)
  rwa [List.nil_append] at this
theorem Ok.pieces_is (h : Ok X) : ∀ l ∈ piecesL X, IsPiece X l :=
  (h.pieces (List.range X.length) (seen := []) (fun c hc => List.mem_range.1 hc) (fun x hx => by cases hx) (by simp)).1
end

/- two more faces than crossings in each piece -/
def pieceAt (X : List Cr) (c : Nat) : Nat := (piecesL X).findIdx fun l => l.contains c
def facesAt (X : List Cr) (i : Nat) : Nat := (facesL X).countP fun f => decide (pieceAt X (head X (f.headD (0, false))).1 = i)
def planarB (X : List Cr) : Bool := (List.range (piecesL X).length).all fun i => decide (facesAt X i = ((piecesL X).getD i []).length + 2)
theorem trefoil_planar : planarB trefoil = true := by decide
end Go.Proofs.YtgjmjbgicfkojaaGreatDoor.Kn

/- A piece as seen from a crossing; the canonical form: plain mathematics. -/
namespace Go.Proofs.YtgjmjbgicfkojaaGreatDoor.Kn

abbrev Vw := List Nat × List Int
def plusI (x : Cr) : Int := if x.p then 1 else 0
def seePl (X : List Cr) (st : Vw) (p : Pl) : Vw :=
  (if (other X p).1 ∈ st.1 then st.1 else st.1 ++ [(other X p).1], st.2 ++ [((st.1.idxOf (other X p).1 : Nat) : Int), (((other X p).2 : Nat) : Int)])
def seeSides (X : List Cr) (c : Nat) : Nat → Vw → Vw
  | 0, st => st
  | k + 1, st => seePl X (seeSides X c k st) (c, k)
def seeC (X : List Cr) (st : Vw) (c : Nat) : Vw := seeSides X c 4 (st.1, st.2 ++ [plusI (cr X c)])
def seeG (X : List Cr) : Nat → Nat → Vw → Vw
  | 0, _, st => st
  | k + 1, i, st => if i < st.1.length then seeG X k (i + 1) (seeC X st (st.1.getD i 0)) else st
def see (X : List Cr) (c : Nat) : Vw := seeG X (X.length + 1) 0 ([c], [])

/- lists compared as slices.Compare does -/
def cmpI (a b : Int) : Int := if a < b then -1 else if b < a then 1 else 0
def cmpL : List Int → List Int → Int
  | [], [] => 0
  | [], _ :: _ => -1
  | _ :: _, [] => 1
  | x :: xs, y :: ys => if cmpI x y = 0 then cmpL xs ys else cmpI x y
theorem cmpI_zero {a b : Int} : cmpI a b = 0 ↔ a = b := by unfold cmpI; split <;> (try split) <;> omega
theorem cmpI_neg {a b : Int} : cmpI a b < 0 ↔ a < b := by unfold cmpI; split <;> (try split) <;> omega
theorem cmpI_cases (a b : Int) : cmpI a b = -1 ∨ cmpI a b = 0 ∨ cmpI a b = 1 := by unfold cmpI; split <;> (try split) <;> omega
theorem cmpI_anti (a b : Int) : cmpI b a = -cmpI a b := by unfold cmpI; split <;> split <;> (try split) <;> omega
theorem cmpL_self : ∀ l : List Int, cmpL l l = 0
  | [] => rfl
  | x :: xs => by rw [cmpL, if_pos (cmpI_zero.2 rfl), cmpL_self xs]
theorem cmpL_anti : ∀ l m : List Int, cmpL m l = -cmpL l m
  | [], [] => rfl
  | [], _ :: _ => rfl
  | _ :: _, [] => rfl
  | x :: xs, y :: ys => by
    rw [cmpL, cmpL, cmpI_anti x y]
    by_cases c : cmpI x y = 0
    · rw [if_pos (by omega), if_pos c, cmpL_anti xs ys]
    · rw [if_neg (by omega), if_neg c]
theorem cmpL_zero : ∀ {l m : List Int}, cmpL l m = 0 ↔ l = m
  | [], [] => by simp [cmpL]
  | [], _ :: _ => by simp [cmpL]
  | _ :: _, [] => by simp [cmpL]
  | x :: xs, y :: ys => by
    rw [cmpL, List.cons.injEq]
    by_cases c : cmpI x y = 0
    · rw [if_pos c, cmpL_zero, ← cmpI_zero]; simp [c]
    · rw [if_neg c, ← cmpI_zero (a := x)]; simp [c]
theorem cmpL_cases : ∀ l m : List Int, cmpL l m = -1 ∨ cmpL l m = 0 ∨ cmpL l m = 1
  | [], [] => .inr (.inl rfl)
  | [], _ :: _ => .inl rfl
  | _ :: _, [] => .inr (.inr rfl)
  | x :: xs, y :: ys => by
    rw [cmpL]
    split
    · exact cmpL_cases xs ys
    · exact cmpI_cases x y
/- 'not greater' goes on -/
theorem cmpL_trans : ∀ {l m n : List Int}, cmpL l m ≤ 0 → cmpL m n ≤ 0 → cmpL l n ≤ 0
  | [], m, [], _, _ => by simp [cmpL]
  | [], m, _ :: _, _, _ => by simp [cmpL]
  | _ :: _, [], n, h, _ => by simp [cmpL] at h
  | x :: xs, y :: ys, [], _, h => by simp [cmpL] at h
  | x :: xs, y :: ys, z :: zs, h, k => by
    rw [cmpL] at h k ⊢
    have e1 := @cmpI_zero x y
    have e2 := @cmpI_zero y z
    have e3 := @cmpI_zero x z
    have e4 := @cmpI_neg x y
    have e5 := @cmpI_neg y z
    have e6 := @cmpI_neg x z
    by_cases c1 : cmpI x y = 0 <;> by_cases c2 : cmpI y z = 0
    · rw [if_pos c1] at h
      rw [if_pos c2] at k
      rw [if_pos (by rw [e3]; rw [e1] at c1; rw [e2] at c2; omega)]
      exact cmpL_trans h k
    · rw [if_neg c2] at k
      have hy : x = y := e1.1 c1
      subst hy
      rw [if_neg c2]; exact k
    · rw [if_neg c1] at h
      have hy : y = z := e2.1 c2
      subst hy
      rw [if_neg c1]; exact h
    · rw [if_neg c1] at h
      rw [if_neg c2] at k
      have h1 : x < y := e4.1 (by omega)
      have h2 : y < z := e5.1 (by omega)
      have h3 : cmpI x z < 0 := e6.2 (by omega)
      rw [if_neg (by omega)]; omega

/- the best view of a piece; views compared; views in order -/
def best (X : List Cr) (l : List Nat) : Vw := l.tail.foldl (fun b c => if cmpL (see X c).2 b.2 < 0 then see X c else b) (see X (l.headD 0))
def cmpV (a b : Vw) : Int := if (a.1.length : Int) - b.1.length = 0 then cmpL a.2 b.2 else (a.1.length : Int) - b.1.length
def insV (x : Vw) : List Vw → List Vw
  | [] => [x]
  | y :: ys => if cmpV x y < 0 then x :: y :: ys else y :: insV x ys
/- one behind the other put into those ahead -/
def sortV (l : List Vw) : List Vw := l.foldl (fun s x => insV x s) []
def viewsL (X : List Cr) : List Vw := sortV ((piecesL X).map (best X))

/- new numbers of arcs: in the order in which they are met -/
def meet (N : List Nat) (a : Nat) : List Nat := if a ∈ N then N else N ++ [a]
def firsts (l : List Nat) : List Nat := l.foldl meet []
def arcsOf (X : List Cr) (c : Nat) : List Nat := [arcN X (c, 0), arcN X (c, 1), arcN X (c, 2), arcN X (c, 3)]
def Cr.ren (x : Cr) (f : Nat → Nat) : Cr := ⟨f x.a.toNat, f x.b.toNat, f x.c.toNat, f x.d.toNat, x.p⟩
def numbered (X : List Cr) (os : List Nat) : List Cr := os.map fun c => (cr X c).ren fun a => (firsts (os.flatMap (arcsOf X))).idxOf a + 1
def orderL (X : List Cr) : List Nat := (viewsL X).flatMap (·.1)
def formL (X : List Cr) : List Cr := numbered X (orderL X)
theorem trefoil_form : (formL trefoil).length = 3 := by decide
end Go.Proofs.YtgjmjbgicfkojaaGreatDoor.Kn

/- The code of a view; views with the same codes have the same numbers: plain mathematics. -/
namespace Go.Proofs.YtgjmjbgicfkojaaGreatDoor.Kn

/- what a crossing adds to the code, by places in a list -/
def chunk (X : List Cr) (l : List Nat) (c : Nat) : List Int :=
  [plusI (cr X c), (l.idxOf (other X (c, 0)).1 : Nat), ((other X (c, 0)).2 : Nat), (l.idxOf (other X (c, 1)).1 : Nat), ((other X (c, 1)).2 : Nat),
   (l.idxOf (other X (c, 2)).1 : Nat), ((other X (c, 2)).2 : Nat), (l.idxOf (other X (c, 3)).1 : Nat), ((other X (c, 3)).2 : Nat)]
theorem addN_one (l ks : List Nat) (k : Nat) : addN [] l (k :: ks) = addN [] (if k ∈ l then l else l ++ [k]) ks := by
  rw [addN]
  by_cases c : k ∈ l
  · rw [if_pos (.inr c), if_pos c]
  · rw [if_neg (by simpa using c), if_neg c]
theorem seeC_fst (X : List Cr) (st : Vw) (c : Nat) : (seeC X st c).1 = addN [] st.1 (nbs X c) := by
  unfold nbs
  rw [addN_one, addN_one, addN_one, addN_one, addN]
  rfl
theorem seeG_fst (X : List Cr) : ∀ (k i : Nat) (st : Vw), (seeG X k i st).1 = grow (nbs X) [] k i st.1
  | 0, _, _ => by rw [seeG, grow]
  | k + 1, i, st => by
    rw [seeG, grow]
    split
    · rw [seeG_fst, seeC_fst]
    · rfl
theorem see_fst (X : List Cr) (c : Nat) : (see X c).1 = pieceOf X [] c := by unfold see pieceOf; rw [seeG_fst]
/- the number told at a step is the place in any longer list -/
theorem idx_step {l m : List Nat} {k : Nat} (h : (if k ∈ l then l else l ++ [k]) <+: m) : l.idxOf k = m.idxOf k := by
  obtain ⟨t, rfl⟩ := h
  by_cases c : k ∈ l
  · rw [if_pos c, List.idxOf_append, if_pos c]
  · rw [if_neg c, List.idxOf_append, if_pos (by simp), List.idxOf_append, if_neg c, List.idxOf_eq_length c]; simp
theorem seeC_snd (X : List Cr) (st : Vw) (c : Nat) {m : List Nat} (h : (seeC X st c).1 <+: m) : (seeC X st c).2 = st.2 ++ chunk X m c := by
  have p4 : ∀ (l : List Nat) (k : Nat), l <+: (if k ∈ l then l else l ++ [k]) := fun l k => by
    split
    · exact List.prefix_refl _
    · exact List.prefix_append _ _
  unfold seeC at h ⊢
  simp only [seeSides, seePl] at h ⊢
  have h3 := (p4 _ _).trans h
  have h2 := (p4 _ _).trans h3
  have h1 := (p4 _ _).trans h2
  rw [idx_step h, idx_step h3, idx_step h2, idx_step h1]
  unfold chunk
  simp
theorem seeG_code (X : List Cr) : ∀ (k i : Nat) (st : Vw), i ≤ st.1.length → st.2 = (st.1.take i).flatMap (chunk X (seeG X k i st).1) →
    (seeG X k i st).2 = ((seeG X k i st).1.take (min (i + k) (seeG X k i st).1.length)).flatMap (chunk X (seeG X k i st).1)
  | 0, i, st, hi, h => by
    rw [seeG] at h ⊢
    rw [h, show min (i + 0) st.1.length = i by omega]
  | k + 1, i, st, hi, h => by
    rw [seeG] at h ⊢
    by_cases c : i < st.1.length
    · rw [if_pos c] at h ⊢
      have hp : (seeC X st (st.1.getD i 0)).1 <+: (seeG X k (i + 1) (seeC X st (st.1.getD i 0))).1 := by rw [seeG_fst]; exact grow_pre _ _ _
      have hq : st.1 <+: (seeC X st (st.1.getD i 0)).1 := by rw [seeC_fst]; exact addN_pre _ _
      have := seeG_code X k (i + 1) (seeC X st (st.1.getD i 0)) (by have := hq.length_le; omega) (by
        rw [seeC_snd X st _ hp, h]
        obtain ⟨t, ht⟩ := hq
        rw [← ht, List.take_append_of_le_length (by omega), List.take_succ_eq_append_getElem c, List.flatMap_append]
        congr 1
        rw [List.getD_eq_getElem?_getD, List.getElem?_eq_getElem c]
        simp)
      rw [this, show i + 1 + k = i + (k + 1) by omega]
    · rw [if_neg c] at h ⊢
      rw [h, show min (i + (k + 1)) st.1.length = i by omega]
theorem chunk_len (X : List Cr) (l : List Nat) (c : Nat) : (chunk X l c).length = 9 := rfl
section
variable {X : List Cr}
theorem Ok.see_piece (h : Ok X) {c : Nat} (hc : c < X.length) : IsPiece X (see X c).1 := by
  rw [see_fst]
  exact h.piece hc (fun x hx => by cases hx) (by simp)
theorem Ok.mem_see (h : Ok X) {c x : Nat} (hc : c < X.length) : x ∈ (see X c).1 ↔ Con X c x := by
  rw [see_fst]
  exact h.mem_piece hc (fun x hx => by cases hx) (by simp)
theorem IsPiece.le {l : List Nat} (h : IsPiece X l) : l.length ≤ X.length := by
  have := nodup_le h.nodup (m := List.range X.length) (fun x hx => List.mem_range.2 (h.con x hx).1)
  simpa using this
theorem Ok.see_code (h : Ok X) {c : Nat} (hc : c < X.length) : (see X c).2 = (see X c).1.flatMap (chunk X (see X c).1) := by
  have hl := (h.see_piece hc).le
  have := seeG_code X (X.length + 1) 0 ([c], []) (by simp) rfl
  unfold see at hl ⊢
  rw [this, List.take_of_length_le (by omega)]
theorem flatMap_len {l : List Nat} {f : Nat → List Int} (hf : ∀ c, (f c).length = 9) : (l.flatMap f).length = 9 * l.length := by
  induction l with
  | nil => rfl
  | cons x xs ih => rw [List.flatMap_cons, List.length_append, ih, hf, List.length_cons]; omega
theorem Ok.code_len (h : Ok X) {c : Nat} (hc : c < X.length) : (see X c).2.length = 9 * (see X c).1.length := by
  rw [h.see_code hc, flatMap_len (chunk_len X _)]
end
/- parts of one length: what is joined tells them -/
theorem flatMap_eq {f g : Nat → List Int} (hf : ∀ c, (f c).length = 9) (hg : ∀ c, (g c).length = 9) : ∀ {l m : List Nat}, l.flatMap f = m.flatMap g → l.map f = m.map g
  | [], [], _ => rfl
  | [], y :: ys, h => by
    have := congrArg List.length h
    rw [flatMap_len hf, flatMap_len hg] at this; simp at this
  | x :: xs, [], h => by
    have := congrArg List.length h
    rw [flatMap_len hf, flatMap_len hg] at this; simp at this
  | x :: xs, y :: ys, h => by
    rw [List.flatMap_cons, List.flatMap_cons] at h
    obtain ⟨h1, h2⟩ := List.append_inj h (by rw [hf, hg])
    rw [List.map_cons, List.map_cons, h1, flatMap_eq hf hg h2]

/- two lists of crossings, in step: what stands at one place looks alike -/
structure Step (X Y : List Cr) (Z : List (Nat × Nat)) (d e : Nat) : Prop where
  plus : (cr X d).p = (cr Y e).p
  side : ∀ s, s < 4 → (other X (d, s)).2 = (other Y (e, s)).2
  next : ∀ s, s < 4 → ((other X (d, s)).1, (other Y (e, s)).1) ∈ Z
theorem plusI_inj {x y : Cr} (h : plusI x = plusI y) : x.p = y.p := by
  unfold plusI at h
  cases hx : x.p <;> cases hy : y.p <;> simp [hx, hy] at h <;> rfl
theorem zip_at {l m : List Nat} (hl : l.length = m.length) {x y : Nat} (hx : x ∈ l) (hy : y ∈ m) (h : l.idxOf x = m.idxOf y) : (x, y) ∈ l.zip m := by
  have h1 := List.idxOf_lt_length_of_mem hx
  have h2 := List.idxOf_lt_length_of_mem hy
  have e1 := List.getElem_idxOf h1
  have e2 := List.getElem_idxOf h2
  have h3 : l.idxOf x < (l.zip m).length := by rw [List.length_zip]; omega
  have e3 : (l.zip m)[l.idxOf x] = (x, y) := by
    rw [List.getElem_zip, e1]
    congr 1
    conv => rhs; rw [← e2]
    congr 1
  exact e3 ▸ List.getElem_mem h3
theorem mem_zip_map {l m : List Nat} {f g : Nat → List Int} (h : l.map f = m.map g) {d e : Nat} (hz : (d, e) ∈ l.zip m) : f d = g e := by
  obtain ⟨i, hi, he⟩ := List.getElem_of_mem hz
  rw [List.length_zip] at hi
  rw [List.getElem_zip] at he
  injection he with h1 h2
  have h3 : (l.map f)[i]? = (m.map g)[i]? := by rw [h]
  rw [List.getElem?_map, List.getElem?_map, List.getElem?_eq_getElem (by omega), List.getElem?_eq_getElem (by omega)] at h3
  simp only [Option.map_some, Option.some.injEq] at h3
  rwa [h1, h2] at h3
theorem zip_fst {l m : List Nat} {d e : Nat} (h : (d, e) ∈ l.zip m) : d ∈ l := (List.of_mem_zip h).1
theorem zip_snd {l m : List Nat} {d e : Nat} (h : (d, e) ∈ l.zip m) : e ∈ m := (List.of_mem_zip h).2
theorem step_of_codes {X Y : List Cr} {l m : List Nat} (hl : IsPiece X l) (hm : IsPiece Y m) (h : l.flatMap (chunk X l) = m.flatMap (chunk Y m)) :
    l.length = m.length ∧ ∀ p ∈ l.zip m, Step X Y (l.zip m) p.1 p.2 := by
  have hlen : l.length = m.length := by
    have := congrArg List.length h
    rw [flatMap_len (chunk_len X l), flatMap_len (chunk_len Y m)] at this; omega
  have hmap := flatMap_eq (chunk_len X l) (chunk_len Y m) h
  refine ⟨hlen, ?_⟩
  rintro ⟨d, e⟩ hz
  have hc := mem_zip_map hmap hz
  have hd := zip_fst hz
  have he := zip_snd hz
  have hin : ∀ s, s < 4 → (other X (d, s)).1 ∈ l := fun s hs => ((hl.con d hd).2 _).2 (.step (.refl _) (by unfold nbc; rw [if_pos (hl.con d hd).1]; exact mem_nbs.2 ⟨s, hs, rfl⟩))
  have him : ∀ s, s < 4 → (other Y (e, s)).1 ∈ m := fun s hs => ((hm.con e he).2 _).2 (.step (.refl _) (by unfold nbc; rw [if_pos (hm.con e he).1]; exact mem_nbs.2 ⟨s, hs, rfl⟩))
  unfold chunk at hc
  simp only [List.cons.injEq, and_true] at hc
  obtain ⟨c0, i0, s0, i1, s1, i2, s2, i3, s3⟩ := hc
  refine ⟨plusI_inj c0, fun s hs => ?_, fun s hs => ?_⟩
  · match s, hs with
    | 0, _ => exact Int.ofNat_inj.1 s0
    | 1, _ => exact Int.ofNat_inj.1 s1
    | 2, _ => exact Int.ofNat_inj.1 s2
    | 3, _ => exact Int.ofNat_inj.1 s3
  · refine zip_at hlen (hin s hs) (him s hs) ?_
    match s, hs with
    | 0, _ => exact Int.ofNat_inj.1 i0
    | 1, _ => exact Int.ofNat_inj.1 i1
    | 2, _ => exact Int.ofNat_inj.1 i2
    | 3, _ => exact Int.ofNat_inj.1 i3

/- first meetings of two lists of one pattern -/
structure Pat (W : List (Nat × Nat)) : Prop where
  iff : ∀ p ∈ W, ∀ q ∈ W, p.1 = q.1 ↔ p.2 = q.2
theorem meet_pair {W : List (Nat × Nat)} (hW : Pat W) {N N' : List Nat} (hl : N.length = N'.length) (hN : ∀ p ∈ N.zip N', p ∈ W) {a a' : Nat} (ha : (a, a') ∈ W) :
    (a ∈ N ↔ a' ∈ N') ∧ (meet N a).length = (meet N' a').length ∧ ∀ p ∈ (meet N a).zip (meet N' a'), p ∈ W := by
  have hiff : a ∈ N ↔ a' ∈ N' := by
    constructor
    · intro h
      obtain ⟨i, hi, rfl⟩ := List.getElem_of_mem h
      have hz : (N[i], N'[i]) ∈ N.zip N' := by
        have hz' : i < (N.zip N').length := by rw [List.length_zip]; omega
        have := List.getElem_mem hz'
        rwa [List.getElem_zip] at this
      have := (hW.iff _ (hN _ hz) _ ha).1 rfl
      simp only at this
      rw [← this]; exact List.getElem_mem _
    · intro h
      obtain ⟨i, hi, rfl⟩ := List.getElem_of_mem h
      have hz : (N[i], N'[i]) ∈ N.zip N' := by
        have hz' : i < (N.zip N').length := by rw [List.length_zip]; omega
        have := List.getElem_mem hz'
        rwa [List.getElem_zip] at this
      have := (hW.iff _ (hN _ hz) _ ha).2 rfl
      simp only at this
      rw [← this]; exact List.getElem_mem _
  refine ⟨hiff, ?_, ?_⟩
  · unfold meet
    by_cases c : a ∈ N
    · rw [if_pos c, if_pos (hiff.1 c), hl]
    · rw [if_neg c, if_neg (fun x => c (hiff.2 x))]; simp [hl]
  · unfold meet
    by_cases c : a ∈ N
    · rw [if_pos c, if_pos (hiff.1 c)]; exact hN
    · rw [if_neg c, if_neg (fun x => c (hiff.2 x)), List.zip_append hl]
      intro p hp
      rcases List.mem_append.1 hp with hp | hp
      · exact hN p hp
      · simp only [List.zip_cons_cons, List.zip_nil_right, List.mem_singleton] at hp
        rw [hp]; exact ha
theorem meet_nodup {N : List Nat} (h : N.Nodup) (a : Nat) : (meet N a).Nodup := by
  unfold meet; split
  · exact h
  · next c => exact nodup_snoc h c
theorem mem_meet {N : List Nat} {a x : Nat} : x ∈ meet N a ↔ x ∈ N ∨ x = a := by
  unfold meet; split
  · next c => exact ⟨.inl, fun h => h.elim id (fun e => e ▸ c)⟩
  · simp
theorem meets_nodup : ∀ (l : List Nat) {N : List Nat}, N.Nodup → (l.foldl meet N).Nodup
  | [], _, h => h
  | a :: l, _, h => meets_nodup l (meet_nodup h a)
theorem mem_meets : ∀ {l N : List Nat} {x : Nat}, x ∈ l.foldl meet N ↔ x ∈ N ∨ x ∈ l
  | [], N, x => by simp
  | a :: l, N, x => by
    rw [List.foldl_cons, mem_meets, mem_meet, List.mem_cons, or_assoc]
theorem firsts_nodup (l : List Nat) : (firsts l).Nodup := meets_nodup l (by simp)
theorem mem_firsts {l : List Nat} {x : Nat} : x ∈ firsts l ↔ x ∈ l := by unfold firsts; rw [mem_meets]; simp
theorem meets_pair {W : List (Nat × Nat)} (hW : Pat W) : ∀ {u v N N' : List Nat}, u.length = v.length → (∀ p ∈ u.zip v, p ∈ W) → N.length = N'.length → (∀ p ∈ N.zip N', p ∈ W) →
    (u.foldl meet N).length = (v.foldl meet N').length ∧ ∀ p ∈ (u.foldl meet N).zip (v.foldl meet N'), p ∈ W
  | [], [], _, _, _, _, hl, hN => ⟨hl, hN⟩
  | [], _ :: _, _, _, h, _, _, _ => by simp at h
  | _ :: _, [], _, _, h, _, _, _ => by simp at h
  | a :: u, b :: v, N, N', h, hu, hl, hN => by
    obtain ⟨_, h2, h3⟩ := meet_pair hW hl hN (hu (a, b) (by simp))
    exact meets_pair hW (u := u) (v := v) (by simpa using h) (fun p hp => hu p (by simp [hp])) h2 h3
theorem firsts_pair {u v : List Nat} (hl : u.length = v.length) (hW : Pat (u.zip v)) {a b : Nat} (h : (a, b) ∈ u.zip v) : (firsts u).idxOf a = (firsts v).idxOf b := by
  obtain ⟨h1, h2⟩ := meets_pair hW (u := u) (v := v) (N := []) (N' := []) hl (fun p hp => hp) rfl (fun p hp => by cases hp)
  have ha : a ∈ firsts u := mem_firsts.2 (zip_fst h)
  have h3 := List.idxOf_lt_length_of_mem ha
  have e3 := List.getElem_idxOf h3
  have h4 : (firsts u).idxOf a < (firsts v).length := by have : (firsts u).length = (firsts v).length := h1; omega
  have hz : ((firsts u)[(firsts u).idxOf a], (firsts v)[(firsts u).idxOf a]) ∈ (firsts u).zip (firsts v) := by
    have hz' : (firsts u).idxOf a < ((firsts u).zip (firsts v)).length := by rw [List.length_zip]; omega
    have := List.getElem_mem hz'
    rwa [List.getElem_zip] at this
  have e4 := (hW.iff _ (h2 _ hz) _ h).1 e3
  simp only at e4
  rw [← e4, (firsts_nodup v).idxOf_getElem]
end Go.Proofs.YtgjmjbgicfkojaaGreatDoor.Kn

/- Diagrams that are one but for the numbers have one canonical form: plain mathematics. -/
namespace Go.Proofs.YtgjmjbgicfkojaaGreatDoor.Kn

theorem perm_of_sub {l m : List Nat} (hl : l.Nodup) (hm : m.Nodup) (hs : ∀ x ∈ l, x ∈ m) (hlen : m.length ≤ l.length) : l.Perm m := by
  refine (List.perm_ext_iff_of_nodup hl hm).2 fun x => ⟨hs x, fun hx => ?_⟩
  refine Classical.byContradiction fun c => ?_
  have := fuel hl hs c hx
  omega
theorem map_nodup {l : List Nat} {f : Nat → Nat} (hl : l.Nodup) (hinj : ∀ x ∈ l, ∀ y ∈ l, f x = f y → x = y) : (l.map f).Nodup := by
  rw [List.Nodup, List.pairwise_map]
  refine List.Pairwise.imp_of_mem (fun hx hy hne e => ?_) hl
  exact hne (hinj _ hx _ hy e)
theorem inj_perm {l : List Nat} (hl : l.Nodup) {f : Nat → Nat} (hf : ∀ x ∈ l, f x ∈ l) (hinj : ∀ x ∈ l, ∀ y ∈ l, f x = f y → x = y) : (l.map f).Perm l :=
  perm_of_sub (map_nodup hl hinj) hl (fun x hx => by obtain ⟨y, hy, rfl⟩ := List.mem_map.1 hx; exact hf y hy) (by simp)

structure Iso (X Y : List Cr) (f t : Nat → Nat) : Prop where
  len : Y.length = X.length
  lt : ∀ i, i < X.length → f i < X.length
  inj : ∀ i j, i < X.length → j < X.length → f i = f j → i = j
  cr_ : ∀ i, i < X.length → cr Y i = (cr X (f i)).ren t
  tlt : ∀ a, isArc X a → isArc X (t a)
  tinj : ∀ a b, isArc X a → isArc X b → t a = t b → a = b
theorem ren_arc (x : Cr) (t : Nat → Nat) (s : Nat) : (x.ren t).arc s = (t (x.arc s).toNat : Nat) := by
  unfold Cr.ren Cr.arc
  split
  · rfl
  split
  · rfl
  split <;> rfl
theorem ok_mk {X : List Cr} (h1 : ∀ p, isPl X p → 1 ≤ at_ X p ∧ at_ X p ≤ (nArcs X : Int)) (h2 : ∀ (io : Bool) (a : Nat), isArc X a → ∃ p, isPl X p ∧ cm X p = io ∧ at_ X p = a)
    (h3 : ∀ p q, isPl X p → isPl X q → cm X p = cm X q → at_ X p = at_ X q → p = q) : Ok X := by
  refine ⟨h1, fun io a ha hb => ?_, h3⟩
  obtain ⟨p, hp, e1, e2⟩ := h2 io a ⟨ha, hb⟩
  have hp' : 1 ≤ cnt X io (4 * X.length) a := cnt_pos (pk_lt hp) (by rw [pl_pk hp.2]; exact e1) (by rw [pl_pk hp.2]; exact e2)
  obtain ⟨j, hj, e, e3, e4⟩ := last_of hp'
  unfold endP
  rw [e]
  exact ⟨isPl_pl hj, e3, e4⟩

section
variable {X Y : List Cr} {f t : Nat → Nat}
theorem Iso.arcs_eq (h : Iso X Y f t) : nArcs Y = nArcs X := by unfold nArcs; rw [h.len]
theorem Iso.surj (h : Iso X Y f t) {c : Nat} (hc : c < X.length) : ∃ i, i < X.length ∧ f i = c := by
  have := inj_perm (l := List.range X.length) List.nodup_range (f := f) (fun x hx => List.mem_range.2 (h.lt x (List.mem_range.1 hx))) (fun x hx y hy => h.inj x y (List.mem_range.1 hx) (List.mem_range.1 hy))
  obtain ⟨i, hi, e⟩ := List.mem_map.1 (this.mem_iff.2 (List.mem_range.2 hc))
  exact ⟨i, List.mem_range.1 hi, e⟩
theorem Iso.tsurj (h : Iso X Y f t) {c : Nat} (hc : isArc X c) : ∃ i, isArc X i ∧ t i = c := by
  have := inj_perm (l := arcs X) (arcs_nodup X) (f := t) (fun x hx => mem_arcs.2 (h.tlt x (mem_arcs.1 hx))) (fun x hx y hy => h.tinj x y (mem_arcs.1 hx) (mem_arcs.1 hy))
  obtain ⟨i, hi, e⟩ := List.mem_map.1 (this.mem_iff.2 (mem_arcs.2 hc))
  exact ⟨i, mem_arcs.1 hi, e⟩
def onP (f : Nat → Nat) (p : Pl) : Pl := (f p.1, p.2)
theorem Iso.isArc (h : Iso X Y f t) {a : Nat} : isArc Y a ↔ isArc X a := by unfold Kn.isArc; rw [h.arcs_eq]
theorem Iso.isPl (h : Iso X Y f t) {p : Pl} (hp : isPl Y p) : isPl X (onP f p) := ⟨h.lt _ (by have := hp.1; rwa [h.len] at this), hp.2⟩
theorem Iso.at_ (h : Iso X Y f t) {p : Pl} (hp : Kn.isPl Y p) : at_ Y p = (t (arcN X (onP f p)) : Nat) := by
  unfold Kn.at_ arcN Kn.at_ onP
  rw [h.cr_ _ (by have := hp.1; rwa [h.len] at this), ren_arc]
theorem Iso.cm (h : Iso X Y f t) {p : Pl} (hp : Kn.isPl Y p) : cm Y p = cm X (onP f p) := by
  unfold Kn.cm onP
  rw [h.cr_ _ (by have := hp.1; rwa [h.len] at this)]
  rfl
theorem Iso.onP_inj (h : Iso X Y f t) {p q : Pl} (hp : Kn.isPl Y p) (hq : Kn.isPl Y q) (e : onP f p = onP f q) : p = q := by
  obtain ⟨a, b⟩ := p
  obtain ⟨c, d⟩ := q
  unfold onP at e
  injection e with e1 e2
  simp only at e1 e2
  rw [h.inj a c (by have := hp.1; rwa [h.len] at this) (by have := hq.1; rwa [h.len] at this) e1, e2]
theorem Iso.ok (h : Iso X Y f t) (hX : Ok X) : Ok Y := by
  refine ok_mk (fun p hp => ?_) (fun io a ha => ?_) (fun p q hp hq hc ha => ?_)
  · rw [h.at_ hp, h.arcs_eq]
    have := h.tlt _ (hX.isArc (h.isPl hp))
    unfold Kn.isArc at this; omega
  · obtain ⟨b, hb, rfl⟩ := h.tsurj (h.isArc.1 ha)
    have hq := hX.isPl_end (io := io) hb
    obtain ⟨i, hi, e⟩ := h.surj hq.1
    have hp : Kn.isPl Y (i, (endP X io b).2) := ⟨by rw [h.len]; exact hi, hq.2⟩
    have ep : onP f (i, (endP X io b).2) = endP X io b := by unfold onP; rw [e]
    refine ⟨_, hp, ?_, ?_⟩
    · rw [h.cm hp, ep, hX.cm_end hb]
    · rw [h.at_ hp, ep, hX.arc_end hb]
  · refine h.onP_inj hp hq (hX.uniq _ _ (h.isPl hp) (h.isPl hq) (by rw [← h.cm hp, ← h.cm hq, hc]) ?_)
    rw [h.at_ hp, h.at_ hq, Int.ofNat_inj] at ha
    rw [← hX.arcN_eq (h.isPl hp), ← hX.arcN_eq (h.isPl hq), h.tinj _ _ (hX.isArc (h.isPl hp)) (hX.isArc (h.isPl hq)) ha]
theorem Iso.arcN (h : Iso X Y f t) {p : Pl} (hp : Kn.isPl Y p) : arcN Y p = t (arcN X (onP f p)) := by
  unfold Kn.arcN; rw [h.at_ hp]; rfl
theorem Iso.other (h : Iso X Y f t) (hX : Ok X) {p : Pl} (hp : Kn.isPl Y p) : onP f (other Y p) = other X (onP f p) := by
  have hY := h.ok hX
  have ho := hY.isPl_other hp
  have h1 := h.isPl hp
  have h2 := h.isPl ho
  refine hX.uniq _ _ h2 (hX.isPl_other h1) ?_ ?_
  · rw [← h.cm ho, hY.cm_other hp, hX.cm_other h1, h.cm hp]
  · have e : t (Kn.arcN X (onP f (Kn.other Y p))) = t (Kn.arcN X (onP f p)) := by rw [← h.arcN ho, ← h.arcN hp, hY.arc_other hp]
    have := h.tinj _ _ (hX.isArc h2) (hX.isArc h1) e
    rw [← hX.arcN_eq h2, ← hX.arcN_eq (hX.isPl_other h1), hX.arc_other h1, this]
/- what is seen -/
theorem idxOf_map {l : List Nat} {n a : Nat} (hinj : ∀ i j, i < n → j < n → f i = f j → i = j) (hl : ∀ x ∈ l, x < n) (ha : a < n) : (l.map f).idxOf (f a) = l.idxOf a := by
  induction l with
  | nil => rfl
  | cons x xs ih =>
    rw [List.map_cons, List.idxOf_cons, List.idxOf_cons, ih (fun y hy => hl y (by simp [hy]))]
    by_cases c : x = a
    · subst c; simp
    · have : ¬ f x = f a := fun e => c (hinj x a (hl x (by simp)) ha e)
      have e1 : (x == a) = false := by simpa using c
      have e2 : (f x == f a) = false := by simpa using this
      rw [e1, e2]
theorem mem_map_inj {l : List Nat} {n a : Nat} (hinj : ∀ i j, i < n → j < n → f i = f j → i = j) (hl : ∀ x ∈ l, x < n) (ha : a < n) : f a ∈ l.map f ↔ a ∈ l := by
  rw [List.mem_map]
  exact ⟨fun ⟨x, hx, e⟩ => hinj x a (hl x hx) ha e ▸ hx, fun h => ⟨a, h, rfl⟩⟩
structure Rel (n : Nat) (f : Nat → Nat) (s u : Vw) : Prop where
  fst : u.1 = s.1.map f
  snd : u.2 = s.2
  lt : ∀ x ∈ s.1, x < n
theorem Iso.seePl (h : Iso X Y f t) (hX : Ok X) {s u : Vw} (hr : Rel X.length f s u) {p : Pl} (hp : Kn.isPl Y p) : Rel X.length f (seePl Y s p) (seePl X u (onP f p)) := by
  have ho := h.other hX hp
  have hl : (Kn.other Y p).1 < X.length := by have := ((h.ok hX).isPl_other hp).1; rwa [h.len] at this
  have e1 : (Kn.other X (onP f p)).1 = f (Kn.other Y p).1 := by rw [← ho]; rfl
  have e2 : (Kn.other X (onP f p)).2 = (Kn.other Y p).2 := by rw [← ho]; rfl
  unfold Kn.seePl
  refine ⟨?_, ?_, fun x hx => ?_⟩
  · simp only
    rw [e1, hr.fst]
    by_cases c : (Kn.other Y p).1 ∈ s.1
    · rw [if_pos c, if_pos ((mem_map_inj h.inj hr.lt hl).2 c)]
    · rw [if_neg c, if_neg (fun x => c ((mem_map_inj h.inj hr.lt hl).1 x)), List.map_append]; rfl
  · simp only
    rw [e1, e2, hr.snd, hr.fst, idxOf_map h.inj hr.lt hl]
  · simp only at hx
    split at hx
    · exact hr.lt x hx
    · rcases List.mem_append.1 hx with hx | hx
      · exact hr.lt x hx
      · rw [List.mem_singleton] at hx; subst hx; exact hl
theorem Iso.seeC (h : Iso X Y f t) (hX : Ok X) {s u : Vw} (hr : Rel X.length f s u) {i : Nat} (hi : i < X.length) : Rel X.length f (seeC Y s i) (seeC X u (f i)) := by
  have hp : ∀ k, k < 4 → Kn.isPl Y (i, k) := fun k hk => ⟨by rw [h.len]; exact hi, hk⟩
  have h0 : Rel X.length f (s.1, s.2 ++ [plusI (cr Y i)]) (u.1, u.2 ++ [plusI (cr X (f i))]) := by
    refine ⟨hr.fst, ?_, hr.lt⟩
    simp only
    rw [hr.snd, h.cr_ i hi]; rfl
  exact h.seePl hX (h.seePl hX (h.seePl hX (h.seePl hX h0 (hp 0 (by omega))) (hp 1 (by omega))) (hp 2 (by omega))) (hp 3 (by omega))
theorem Iso.seeG (h : Iso X Y f t) (hX : Ok X) : ∀ (k i : Nat) {s u : Vw}, Rel X.length f s u → Rel X.length f (seeG Y k i s) (seeG X k i u)
  | 0, _, s, u, hr => by rw [Kn.seeG, Kn.seeG]; exact hr
  | k + 1, i, s, u, hr => by
    rw [Kn.seeG, Kn.seeG]
    have hl : u.1.length = s.1.length := by rw [hr.fst]; simp
    by_cases c : i < s.1.length
    · rw [if_pos c, if_pos (by omega)]
      refine h.seeG hX k (i + 1) ?_
      have e : u.1.getD i 0 = f (s.1.getD i 0) := by
        rw [List.getD_eq_getElem?_getD, List.getD_eq_getElem?_getD, hr.fst, List.getElem?_map, List.getElem?_eq_getElem c]; rfl
      rw [e]
      exact h.seeC hX hr (hr.lt _ (getD_mem c))
    · rw [if_neg c, if_neg (by omega)]; exact hr
theorem Iso.see (h : Iso X Y f t) (hX : Ok X) {i : Nat} (hi : i < X.length) : Rel X.length f (see Y i) (see X (f i)) := by
  unfold Kn.see
  rw [h.len]
  exact h.seeG hX _ _ ⟨rfl, rfl, fun x hx => by rw [List.mem_singleton] at hx; subst hx; exact hi⟩
theorem Iso.con (h : Iso X Y f t) (hX : Ok X) {i j : Nat} (hi : i < X.length) (hj : j < X.length) : Con Y i j ↔ Con X (f i) (f j) := by
  have hr := h.see hX hi
  rw [← (h.ok hX).mem_see (by rw [h.len]; exact hi), ← hX.mem_see (h.lt i hi), hr.fst, mem_map_inj h.inj hr.lt hj]
end

/- the best code of a piece -/
def IsBest (X : List Cr) (c : Nat) (k : List Int) : Prop := (∃ d, Con X c d ∧ (see X d).2 = k) ∧ ∀ d, Con X c d → cmpL k (see X d).2 ≤ 0
theorem IsBest.uniq {X : List Cr} {c : Nat} {k k' : List Int} (h : IsBest X c k) (h' : IsBest X c k') : k = k' := by
  obtain ⟨d, hd, rfl⟩ := h.1
  obtain ⟨d', hd', rfl⟩ := h'.1
  have h1 := h.2 d' hd'
  have h2 := h'.2 d hd
  have h3 := cmpL_anti (see X d).2 (see X d').2
  exact cmpL_zero.1 (by omega)
theorem Iso.best {X Y : List Cr} {f t : Nat → Nat} (h : Iso X Y f t) (hX : Ok X) {i : Nat} (hi : i < X.length) {k : List Int} : IsBest Y i k ↔ IsBest X (f i) k := by
  have hY := h.ok hX
  have hiY : i < Y.length := by rw [h.len]; exact hi
  constructor
  · rintro ⟨⟨d, hd, rfl⟩, h2⟩
    have hdl : d < X.length := by have := hY.con_lt hiY hd; rwa [h.len] at this
    refine ⟨⟨f d, (h.con hX hi hdl).1 hd, (h.see hX hdl).snd⟩, fun e he => ?_⟩
    obtain ⟨j, hj, rfl⟩ := h.surj (hX.con_lt (h.lt i hi) he)
    rw [(h.see hX hj).snd]
    exact h2 j ((h.con hX hi hj).2 he)
  · rintro ⟨⟨d, hd, rfl⟩, h2⟩
    obtain ⟨j, hj, rfl⟩ := h.surj (hX.con_lt (h.lt i hi) hd)
    refine ⟨⟨j, (h.con hX hi hj).2 hd, (h.see hX hj).snd.symm⟩, fun e he => ?_⟩
    have hel : e < X.length := by have := hY.con_lt hiY he; rwa [h.len] at this
    rw [← (h.see hX hel).snd]
    exact h2 (f e) ((h.con hX hi hel).1 he)
theorem best_fold (X : List Cr) : ∀ (l : List Nat) (d : Nat), ∃ e, (e = d ∨ e ∈ l) ∧ l.foldl (fun b c => if cmpL (see X c).2 b.2 < 0 then see X c else b) (see X d) = see X e ∧ cmpL (see X e).2 (see X d).2 ≤ 0 ∧ ∀ c ∈ l, cmpL (see X e).2 (see X c).2 ≤ 0
  | [], d => ⟨d, .inl rfl, rfl, by rw [cmpL_self]; omega, fun c hc => by cases hc⟩
  | c :: l, d => by
    rw [List.foldl_cons]
    by_cases h : cmpL (see X c).2 (see X d).2 < 0
    · rw [if_pos h]
      obtain ⟨e, h1, h2, h3, h4⟩ := best_fold X l c
      refine ⟨e, ?_, h2, cmpL_trans h3 (by omega), fun x hx => ?_⟩
      · rcases h1 with rfl | h1
        · exact .inr (by simp)
        · exact .inr (by simp [h1])
      · rcases List.mem_cons.1 hx with rfl | hx
        · exact h3
        · exact h4 x hx
    · rw [if_neg h]
      obtain ⟨e, h1, h2, h3, h4⟩ := best_fold X l d
      refine ⟨e, ?_, h2, h3, fun x hx => ?_⟩
      · rcases h1 with rfl | h1
        · exact .inl rfl
        · exact .inr (by simp [h1])
      · rcases List.mem_cons.1 hx with rfl | hx
        · refine cmpL_trans h3 ?_
          have := cmpL_anti (see X x).2 (see X d).2
          omega
        · exact h4 x hx
theorem best_is (X : List Cr) {l : List Nat} (hl : l ≠ []) : ∃ e, e ∈ l ∧ best X l = see X e ∧ ∀ c ∈ l, cmpL (see X e).2 (see X c).2 ≤ 0 := by
  cases l with
  | nil => exact absurd rfl hl
  | cons d l =>
    obtain ⟨e, h1, h2, h3, h4⟩ := best_fold X l d
    refine ⟨e, ?_, h2, fun c hc => ?_⟩
    · rcases h1 with rfl | h1 <;> simp [*]
    · rcases List.mem_cons.1 hc with rfl | hc
      · exact h3
      · exact h4 c hc
theorem IsPiece.see_perm {X : List Cr} {l : List Nat} (h : IsPiece X l) (hX : Ok X) {c : Nat} (hc : c ∈ l) : (see X c).1.Perm l :=
  (List.perm_ext_iff_of_nodup (hX.see_piece (h.con c hc).1).nodup h.nodup).2 fun x => (hX.mem_see (h.con c hc).1).trans ((h.con c hc).2 x).symm
theorem IsPiece.best {X : List Cr} {l : List Nat} (h : IsPiece X l) {c : Nat} (hc : c ∈ l) : IsBest X c (Kn.best X l).2 := by
  obtain ⟨e, he, h1, h2⟩ := best_is X h.ne
  rw [h1]
  exact ⟨⟨e, ((h.con c hc).2 e).1 he, rfl⟩, fun d hd => h2 d (((h.con c hc).2 d).2 hd)⟩
theorem IsPiece.best_len {X : List Cr} {l : List Nat} (h : IsPiece X l) (hX : Ok X) : (Kn.best X l).2.length = 9 * l.length := by
  obtain ⟨e, he, h1, _⟩ := best_is X h.ne
  rw [h1, hX.code_len (h.con e he).1, (h.see_perm hX he).length_eq]
theorem count_best {X : List Cr} (hX : Ok X) (k : List Int) {P : Nat → Bool} (hP : ∀ c, P c = true ↔ IsBest X c k) : ∀ (L : List (List Nat)), (∀ l ∈ L, IsPiece X l) → 9 * L.flatten.countP P = (L.map fun l => (best X l).2).count k * k.length
  | [], _ => by simp
  | l :: L, h => by
    have ih := count_best hX k hP L fun x hx => h x (by simp [hx])
    have hl := h l (by simp)
    rw [List.flatten_cons, List.countP_append, List.map_cons, List.count_cons, Nat.mul_add, ih, Nat.add_mul, Nat.add_comm]
    congr 1
    by_cases c : (best X l).2 = k
    · have e1 : ((best X l).2 == k) = true := by simpa using c
      have e2 : l.countP P = l.length := List.countP_eq_length.2 fun x hx => (hP x).2 (c ▸ hl.best hx)
      rw [e1, e2, ← c, hl.best_len hX]; simp
    · have e1 : ((best X l).2 == k) = false := by simpa using c
      have e2 : l.countP P = 0 := List.countP_eq_zero.2 fun x hx hb => c ((hl.best hx).uniq ((hP x).1 hb))
      rw [e1, e2]; simp
theorem exists_bool (P : Nat → Prop) : ∃ Q : Nat → Bool, ∀ c, Q c = true ↔ P c :=
  ⟨fun c => @decide (P c) (Classical.propDecidable _), fun c => @decide_eq_true_iff (P c) (Classical.propDecidable _)⟩
theorem Iso.codes {X Y : List Cr} {f t : Nat → Nat} (h : Iso X Y f t) (hX : Ok X) : ((piecesL Y).map fun l => (Kn.best Y l).2).Perm ((piecesL X).map fun l => (Kn.best X l).2) := by
  have hY := h.ok hX
  rw [List.perm_iff_count]
  intro k
  obtain ⟨P, hP⟩ := exists_bool fun c => IsBest X c k
  obtain ⟨Q, hQ⟩ := exists_bool fun c => IsBest Y c k
  have h1 := count_best hX k hP _ hX.pieces_is
  have h2 := count_best hY k hQ _ hY.pieces_is
  have h3 : (piecesL Y).flatten.countP Q = (piecesL X).flatten.countP P := by
    rw [hX.pieces_perm.countP_eq, hY.pieces_perm.countP_eq, h.len]
    have hp := inj_perm (l := List.range X.length) List.nodup_range (f := f) (fun x hx => List.mem_range.2 (h.lt x (List.mem_range.1 hx))) (fun x hx y hy => h.inj x y (List.mem_range.1 hx) (List.mem_range.1 hy))
    rw [← hp.countP_eq P, List.countP_map]
    refine List.countP_congr fun x hx => ?_
    simp only [Function.comp, hP, hQ]
    exact h.best hX (List.mem_range.1 hx)
  rw [h3, h1] at h2
  by_cases c : k.length = 0
  · have hk : k = [] := List.eq_nil_of_length_eq_zero c
    have z : ∀ {Z : List Cr}, Ok Z → ((piecesL Z).map fun l => (Kn.best Z l).2).count k = 0 := fun {Z} hZ => List.count_eq_zero.2 fun hm => by
      obtain ⟨l, hl, e⟩ := List.mem_map.1 hm
      have h4 := (hZ.pieces_is l hl).best_len hZ
      have h5 : 0 < l.length := List.length_pos_iff.2 (hZ.pieces_is l hl).ne
      rw [e, c] at h4; omega
    rw [z hX, z hY]
  · exact (Nat.eq_of_mul_eq_mul_right (by omega) h2).symm

/- views in order -/
theorem cmpV_anti (a b : Vw) : cmpV b a = -cmpV a b := by
  unfold cmpV
  have := cmpL_anti a.2 b.2
  split <;> split <;> omega
theorem cmpV_trans {a b c : Vw} (h : cmpV a b ≤ 0) (k : cmpV b c ≤ 0) : cmpV a c ≤ 0 := by
  unfold cmpV at h k ⊢
  split at h <;> split at k <;> split
  · exact cmpL_trans h k
  all_goals omega
theorem insV_perm (x : Vw) : ∀ l, (insV x l).Perm (x :: l)
  | [] => .refl _
  | y :: ys => by
    rw [insV]; split
    · exact .refl _
    · exact ((insV_perm x ys).cons y).trans (.swap _ _ _)
theorem insV_sorted (x : Vw) : ∀ {l : List Vw}, l.Pairwise (fun a b => cmpV a b ≤ 0) → (insV x l).Pairwise (fun a b => cmpV a b ≤ 0)
  | [], _ => by rw [insV]; simp
  | y :: ys, h => by
    rw [List.pairwise_cons] at h
    rw [insV]; split
    · next c =>
      rw [List.pairwise_cons, List.pairwise_cons]
      refine ⟨fun z hz => ?_, h⟩
      rcases List.mem_cons.1 hz with rfl | hz
      · omega
      · exact cmpV_trans (b := y) (by omega) (h.1 z hz)
    · next c =>
      rw [List.pairwise_cons]
      refine ⟨fun z hz => ?_, insV_sorted x h.2⟩
      rcases List.mem_cons.1 ((insV_perm x ys).mem_iff.1 hz) with rfl | hz
      · have := cmpV_anti z y; omega
      · exact h.1 z hz
theorem sortV_fold : ∀ (l s : List Vw), s.Pairwise (fun a b => cmpV a b ≤ 0) → (l.foldl (fun s x => insV x s) s).Perm (s ++ l) ∧ (l.foldl (fun s x => insV x s) s).Pairwise (fun a b => cmpV a b ≤ 0)
  | [], s, h => ⟨by simp, h⟩
  | x :: l, s, h => by
    obtain ⟨h1, h2⟩ := sortV_fold l (insV x s) (insV_sorted x h)
    refine ⟨h1.trans ?_, h2⟩
    exact ((insV_perm x s).append_right l).trans List.perm_middle.symm
theorem sortV_perm (l : List Vw) : (sortV l).Perm l := by
  have := (sortV_fold l [] (by simp)).1
  rwa [List.nil_append] at this
theorem sortV_sorted (l : List Vw) : (sortV l).Pairwise (fun a b => cmpV a b ≤ 0) := (sortV_fold l [] (by simp)).2

/- views of a diagram -/
structure IsVw (X : List Cr) (v : Vw) : Prop where
  piece : IsPiece X v.1
  code : v.2 = v.1.flatMap (chunk X v.1)
theorem IsVw.len {X : List Cr} {v : Vw} (h : IsVw X v) : v.2.length = 9 * v.1.length := by rw [h.code, flatMap_len (chunk_len X _)]
theorem Ok.see_vw {X : List Cr} (h : Ok X) {c : Nat} (hc : c < X.length) : IsVw X (see X c) := ⟨h.see_piece hc, h.see_code hc⟩
theorem Ok.views {X : List Cr} (h : Ok X) : (∀ v ∈ viewsL X, IsVw X v) ∧ (orderL X).Perm (List.range X.length) := by
  have hb : ∀ l ∈ piecesL X, ∃ c ∈ l, Kn.best X l = see X c := fun l hl => by
    obtain ⟨e, he, h1, _⟩ := best_is X (h.pieces_is l hl).ne
    exact ⟨e, he, h1⟩
  have hp := sortV_perm ((piecesL X).map (Kn.best X))
  refine ⟨fun v hv => ?_, ?_⟩
  · obtain ⟨l, hl, rfl⟩ := List.mem_map.1 (hp.mem_iff.1 hv)
    obtain ⟨c, hc, e⟩ := hb l hl
    rw [e]
    exact h.see_vw ((h.pieces_is l hl).con c hc).1
  · refine (List.Perm.flatMap_right _ hp).trans (.trans ?_ h.pieces_perm)
    have : ∀ L : List (List Nat), (∀ l ∈ L, l ∈ piecesL X) → ((L.map (Kn.best X)).flatMap (·.1)).Perm L.flatten := by
      intro L
      induction L with
      | nil => intro _; exact .refl _
      | cons l L ih =>
        intro hL
        rw [List.map_cons, List.flatMap_cons, List.flatten_cons]
        refine List.Perm.append ?_ (ih fun x hx => hL x (by simp [hx]))
        obtain ⟨c, hc, e⟩ := hb l (hL l (by simp))
        rw [e]
        exact (h.pieces_is l (hL l (by simp))).see_perm h hc
    exact this _ fun l hl => hl
/- codes in order are told by the codes -/
def cmpC (a b : List Int) : Int := if (a.length : Int) - b.length = 0 then cmpL a b else (a.length : Int) - b.length
theorem codes_eq {X Y : List Cr} {vs ws : List Vw} (hv : ∀ v ∈ vs, IsVw X v) (hw : ∀ v ∈ ws, IsVw Y v) (h1 : vs.Pairwise (fun a b => cmpV a b ≤ 0)) (h2 : ws.Pairwise (fun a b => cmpV a b ≤ 0)) (hp : (vs.map (·.2)).Perm (ws.map (·.2))) :
    vs.map (·.2) = ws.map (·.2) := by
  have key : ∀ {Z : List Cr} {us : List Vw}, (∀ v ∈ us, IsVw Z v) → us.Pairwise (fun a b => cmpV a b ≤ 0) → (us.map (·.2)).Pairwise (fun a b => cmpC a b ≤ 0) := by
    intro Z us hu hs
    rw [List.pairwise_map]
    refine List.Pairwise.imp_of_mem (fun {a b} ha hb hab => ?_) hs
    have l1 := (hu a ha).len
    have l2 := (hu b hb).len
    unfold cmpV at hab
    unfold cmpC
    split at hab <;> split <;> omega
  refine hp.eq_of_pairwise (le := fun a b => cmpC a b ≤ 0) (fun a b _ _ hab hba => ?_) (key hv h1) (key hw h2)
  unfold cmpC at hab hba
  have := cmpL_anti a b
  split at hab <;> split at hba
  · exact cmpL_zero.1 (by omega)
  all_goals omega

/- two lists of crossings in step have the same numbers -/
theorem Step.mono {X Y : List Cr} {Z Z' : List (Nat × Nat)} {d e : Nat} (h : Step X Y Z d e) (hs : ∀ p ∈ Z, p ∈ Z') : Step X Y Z' d e := ⟨h.plus, h.side, fun s h4 => hs _ (h.next s h4)⟩
theorem steps {X Y : List Cr} : ∀ {vs ws : List Vw}, (∀ v ∈ vs, IsVw X v) → (∀ v ∈ ws, IsVw Y v) → vs.map (·.2) = ws.map (·.2) →
    (vs.flatMap (·.1)).length = (ws.flatMap (·.1)).length ∧ ∀ p ∈ (vs.flatMap (·.1)).zip (ws.flatMap (·.1)), Step X Y ((vs.flatMap (·.1)).zip (ws.flatMap (·.1))) p.1 p.2
  | [], [], _, _, _ => ⟨rfl, fun p hp => by cases hp⟩
  | [], _ :: _, _, _, h => by simp at h
  | _ :: _, [], _, _, h => by simp at h
  | v :: vs, w :: ws, hv, hw, h => by
    rw [List.map_cons, List.map_cons, List.cons.injEq] at h
    obtain ⟨i1, i2⟩ := steps (fun x hx => hv x (by simp [hx])) (fun x hx => hw x (by simp [hx])) h.2
    have h1 := hv v (by simp)
    have h2 := hw w (by simp)
    obtain ⟨j1, j2⟩ := step_of_codes h1.piece h2.piece (by rw [← h1.code, ← h2.code, h.1])
    rw [List.flatMap_cons, List.flatMap_cons, List.zip_append j1]
    refine ⟨by rw [List.length_append, List.length_append, i1, j1], fun p hp => ?_⟩
    rcases List.mem_append.1 hp with hp | hp
    · exact (j2 p hp).mono fun q hq => List.mem_append.2 (.inl hq)
    · exact (i2 p hp).mono fun q hq => List.mem_append.2 (.inr hq)
theorem zip_fun {l m : List Nat} (hl : l.Nodup) {d e e' : Nat} (h : (d, e) ∈ l.zip m) (h' : (d, e') ∈ l.zip m) : e = e' := by
  obtain ⟨i, hi, e1⟩ := List.getElem_of_mem h
  obtain ⟨j, hj, e2⟩ := List.getElem_of_mem h'
  rw [List.length_zip] at hi hj
  rw [List.getElem_zip, Prod.mk.injEq] at e1 e2
  have : i = j := (List.getElem_inj hl).1 (e1.1.trans e2.1.symm)
  subst this
  exact e1.2.symm.trans e2.2
theorem zip_swap {l m : List Nat} {d e : Nat} (h : (d, e) ∈ l.zip m) : (e, d) ∈ m.zip l := by
  obtain ⟨i, hi, e1⟩ := List.getElem_of_mem h
  rw [List.length_zip] at hi
  rw [List.getElem_zip, Prod.mk.injEq] at e1
  have h3 : i < (m.zip l).length := by rw [List.length_zip]; omega
  have : (m.zip l)[i] = (e, d) := by rw [List.getElem_zip, e1.1, e1.2]
  exact this ▸ List.getElem_mem h3
theorem mem_zip_arcs {X Y : List Cr} {a b : Nat} : ∀ {l m : List Nat}, l.length = m.length → (a, b) ∈ (l.flatMap (arcsOf X)).zip (m.flatMap (arcsOf Y)) → ∃ d e s, (d, e) ∈ l.zip m ∧ s < 4 ∧ a = arcN X (d, s) ∧ b = arcN Y (e, s)
  | [], [], _, h => by cases h
  | [], _ :: _, h, _ => by simp at h
  | _ :: _, [], h, _ => by simp at h
  | d :: l, e :: m, hl, h => by
    rw [List.flatMap_cons, List.flatMap_cons, List.zip_append (by rfl)] at h
    rcases List.mem_append.1 h with h | h
    · unfold arcsOf at h
      simp only [List.zip_cons_cons, List.zip_nil_right, List.mem_cons, List.not_mem_nil, or_false, Prod.mk.injEq] at h
      rcases h with ⟨h1, h2⟩ | ⟨h1, h2⟩ | ⟨h1, h2⟩ | ⟨h1, h2⟩
      · exact ⟨d, e, 0, by simp, by omega, h1, h2⟩
      · exact ⟨d, e, 1, by simp, by omega, h1, h2⟩
      · exact ⟨d, e, 2, by simp, by omega, h1, h2⟩
      · exact ⟨d, e, 3, by simp, by omega, h1, h2⟩
    · obtain ⟨d', e', s, h1, h2, h3, h4⟩ := mem_zip_arcs (by simpa using hl) h
      exact ⟨d', e', s, by simp [h1], h2, h3, h4⟩
theorem arcs_zip {X Y : List Cr} {d e s : Nat} (hs : s < 4) : ∀ {l m : List Nat}, l.length = m.length → (d, e) ∈ l.zip m → (arcN X (d, s), arcN Y (e, s)) ∈ (l.flatMap (arcsOf X)).zip (m.flatMap (arcsOf Y))
  | [], [], _, h => by cases h
  | [], _ :: _, h, _ => by simp at h
  | _ :: _, [], h, _ => by simp at h
  | c :: l, k :: m, hl, h => by
    rw [List.flatMap_cons, List.flatMap_cons, List.zip_append (by rfl), List.mem_append]
    rw [List.zip_cons_cons, List.mem_cons, Prod.mk.injEq] at h
    rcases h with ⟨rfl, rfl⟩ | h
    · left
      unfold arcsOf
      match s, hs with
      | 0, _ => simp
      | 1, _ => simp
      | 2, _ => simp
      | 3, _ => simp
    · exact .inr (arcs_zip hs (by simpa using hl) h)
/- one arc stands at one place, or at the two ends of it -/
theorem Ok.arc_eq {X : List Cr} (h : Ok X) {p q : Pl} (hp : isPl X p) (hq : isPl X q) : arcN X p = arcN X q ↔ q = p ∨ q = Kn.other X p := by
  constructor
  · intro e
    have e' : Kn.at_ X p = Kn.at_ X q := by rw [← h.arcN_eq hp, ← h.arcN_eq hq, e]
    by_cases c : Kn.cm X p = Kn.cm X q
    · exact .inl (h.uniq _ _ hp hq c e').symm
    · right
      refine h.uniq _ _ hq (h.isPl_other hp) ?_ ?_
      · rw [h.cm_other hp]; revert c; cases Kn.cm X p <;> cases Kn.cm X q <;> simp
      · rw [← h.arcN_eq (h.isPl_other hp), h.arc_other hp, h.arcN_eq hp, e']
  · rintro (rfl | rfl)
    · rfl
    · exact (h.arc_other hp).symm
theorem pat_half {X Y : List Cr} (hX : Ok X) (hY : Ok Y) {l m : List Nat} (hl : l.Nodup) (hlt : ∀ x ∈ l, x < X.length) (hmt : ∀ x ∈ m, x < Y.length) (hz : ∀ p ∈ l.zip m, Step X Y (l.zip m) p.1 p.2)
    {d e d' e' s s' : Nat} (h : (d, e) ∈ l.zip m) (h' : (d', e') ∈ l.zip m) (hs : s < 4) (hs' : s' < 4) (k : arcN X (d, s) = arcN X (d', s')) : arcN Y (e, s) = arcN Y (e', s') := by
  have hp : isPl X (d, s) := ⟨hlt _ (zip_fst h), hs⟩
  have hq : isPl X (d', s') := ⟨hlt _ (zip_fst h'), hs'⟩
  have hp' : isPl Y (e, s) := ⟨hmt _ (zip_snd h), hs⟩
  rcases (hX.arc_eq hp hq).1 k with e1 | e1
  · injection e1 with e1 e2
    subst e1 e2
    rw [zip_fun hl h h']
  · have h1 := hz _ h
    have hn := h1.next s hs
    have hsd := h1.side s hs
    simp only at hn hsd
    rw [← e1] at hn hsd
    simp only at hn hsd
    have e2 := zip_fun hl h' hn
    have e3 : ((e', s') : Pl) = Kn.other Y (e, s) := by rw [e2, hsd]
    rw [e3, hY.arc_other hp']
theorem Step.swap {X Y : List Cr} {l m : List Nat} {d e : Nat} (h : Step X Y (l.zip m) d e) : Step Y X (m.zip l) e d := ⟨h.plus.symm, fun s hs => (h.side s hs).symm, fun s hs => zip_swap (h.next s hs)⟩
theorem numbered_eq {X Y : List Cr} (hX : Ok X) (hY : Ok Y) {l m : List Nat} (hl : l.Nodup) (hm : m.Nodup) (hlt : ∀ x ∈ l, x < X.length) (hmt : ∀ x ∈ m, x < Y.length) (hlen : l.length = m.length)
    (hz : ∀ p ∈ l.zip m, Step X Y (l.zip m) p.1 p.2) : numbered X l = numbered Y m := by
  have hpat : Pat ((l.flatMap (arcsOf X)).zip (m.flatMap (arcsOf Y))) := by
    refine ⟨?_⟩
    rintro ⟨a, b⟩ h1 ⟨a', b'⟩ h2
    obtain ⟨d, e, s, z1, hs, rfl, rfl⟩ := mem_zip_arcs hlen h1
    obtain ⟨d', e', s', z2, hs', rfl, rfl⟩ := mem_zip_arcs hlen h2
    refine ⟨pat_half hX hY hl hlt hmt hz z1 z2 hs hs', ?_⟩
    exact pat_half hY hX hm hmt hlt (fun p hp => (hz (p.2, p.1) (zip_swap hp)).swap) (zip_swap z1) (zip_swap z2) hs hs'
  have hfl : (l.flatMap (arcsOf X)).length = (m.flatMap (arcsOf Y)).length := by
    have : ∀ (Z : List Cr) (l : List Nat), (l.flatMap (arcsOf Z)).length = 4 * l.length := fun Z l => by
      induction l with
      | nil => rfl
      | cons x xs ih => rw [List.flatMap_cons, List.length_append, ih, List.length_cons]; simp [arcsOf]; omega
    rw [this, this, hlen]
  unfold numbered
  refine List.ext_getElem (by simp [hlen]) fun i h1 h2 => ?_
  rw [List.length_map] at h1 h2
  rw [List.getElem_map, List.getElem_map]
  have hzi : (l[i], m[i]) ∈ l.zip m := by
    have h3 : i < (l.zip m).length := by rw [List.length_zip]; omega
    have : (l.zip m)[i] = (l[i], m[i]) := by rw [List.getElem_zip]
    exact this ▸ List.getElem_mem h3
  have hst := hz _ hzi
  have ha : ∀ s, s < 4 → (firsts (l.flatMap (arcsOf X))).idxOf (arcN X (l[i], s)) = (firsts (m.flatMap (arcsOf Y))).idxOf (arcN Y (m[i], s)) := fun s hs => firsts_pair hfl hpat (arcs_zip hs hlen hzi)
  have a0 := ha 0 (by omega)
  have a1 := ha 1 (by omega)
  have a2 := ha 2 (by omega)
  have a3 := ha 3 (by omega)
  have hplus := hst.plus
  simp only at hplus
  unfold Cr.ren
  simp only
  unfold arcN Kn.at_ Cr.arc at a0 a1 a2 a3
  simp only [Nat.zero_ne_one, if_true, if_false, Nat.reduceEqDiff] at a0 a1 a2 a3
  rw [a0, a1, a2, a3, hplus]
theorem Iso.form {X Y : List Cr} {f t : Nat → Nat} (h : Iso X Y f t) (hX : Ok X) : formL X = formL Y := by
  have hY := h.ok hX
  obtain ⟨v1, p1⟩ := hX.views
  obtain ⟨v2, p2⟩ := hY.views
  have hc : (viewsL X).map (·.2) = (viewsL Y).map (·.2) := by
    refine codes_eq v1 v2 (sortV_sorted _) (sortV_sorted _) ?_
    refine ((sortV_perm _).map _).trans (.trans ?_ ((sortV_perm _).map _).symm)
    rw [List.map_map, List.map_map]
    exact (h.codes hX).symm
  obtain ⟨s1, s2⟩ := steps v1 v2 hc
  exact numbered_eq hX hY (p1.nodup_iff.2 List.nodup_range) (p2.nodup_iff.2 List.nodup_range) (fun x hx => List.mem_range.1 (p1.mem_iff.1 hx)) (fun x hx => List.mem_range.1 (p2.mem_iff.1 hx)) s1 s2
/- what is numbered anew is the diagram but for the numbers -/
theorem Ok.numbered {X : List Cr} (h : Ok X) {os : List Nat} (hp : os.Perm (List.range X.length)) : Iso X (numbered X os) (fun i => os.getD i 0) (fun a => (firsts (os.flatMap (arcsOf X))).idxOf a + 1) := by
  have hlen : os.length = X.length := by rw [hp.length_eq, List.length_range]
  have hnd : os.Nodup := hp.nodup_iff.2 List.nodup_range
  have hget : ∀ i (hi : i < os.length), os.getD i 0 = os[i] := fun i hi => by rw [List.getD_eq_getElem?_getD, List.getElem?_eq_getElem hi]; rfl
  have hmem : ∀ {a}, a ∈ os.flatMap (arcsOf X) ↔ Kn.isArc X a := fun {a} => by
    rw [List.mem_flatMap]
    constructor
    · rintro ⟨c, hc, ha⟩
      have hcl := List.mem_range.1 (hp.mem_iff.1 hc)
      unfold arcsOf at ha
      simp only [List.mem_cons, List.not_mem_nil, or_false] at ha
      rcases ha with rfl | rfl | rfl | rfl
      · exact h.isArc ⟨hcl, by simp⟩
      · exact h.isArc ⟨hcl, by simp⟩
      · exact h.isArc ⟨hcl, by simp⟩
      · exact h.isArc ⟨hcl, by simp⟩
    · intro ha
      have hq := h.isPl_end (io := true) ha
      refine ⟨(endP X true a).1, hp.mem_iff.2 (List.mem_range.2 hq.1), ?_⟩
      have e := h.arc_end (io := true) ha
      unfold arcsOf
      obtain ⟨c, s, hcs⟩ : ∃ c s, endP X true a = (c, s) := ⟨_, _, rfl⟩
      rw [hcs] at hq e ⊢
      have hs := hq.2
      simp only at hs ⊢
      match s, hs with
      | 0, _ => rw [← e]; simp
      | 1, _ => rw [← e]; simp
      | 2, _ => rw [← e]; simp
      | 3, _ => rw [← e]; simp
  have hperm : (firsts (os.flatMap (arcsOf X))).Perm (arcs X) := (List.perm_ext_iff_of_nodup (firsts_nodup _) (arcs_nodup X)).2 fun a => by rw [mem_firsts, hmem, mem_arcs]
  have hfl : (firsts (os.flatMap (arcsOf X))).length = nArcs X := by rw [hperm.length_eq, arcs_length]
  refine ⟨by unfold Kn.numbered; rw [List.length_map, hlen], fun i hi => ?_, fun i j hi hj e => ?_, fun i hi => ?_, fun a ha => ?_, fun a b ha hb e => ?_⟩
  · exact List.mem_range.1 (hp.mem_iff.1 (getD_mem (by omega)))
  · rw [hget i (by omega), hget j (by omega)] at e
    exact (List.getElem_inj hnd).1 e
  · rw [hget i (by omega)]
    unfold Kn.numbered cr
    rw [List.getD_eq_getElem?_getD, List.getElem?_map, List.getElem?_eq_getElem (by omega)]
    rfl
  · have := List.idxOf_lt_length_of_mem (mem_firsts.2 (hmem.2 ha))
    unfold Kn.isArc; omega
  · have h1 := List.idxOf_lt_length_of_mem (mem_firsts.2 (hmem.2 ha))
    have h2 := List.idxOf_lt_length_of_mem (mem_firsts.2 (hmem.2 hb))
    have e1 := List.getElem_idxOf h1
    have e2 := List.getElem_idxOf h2
    simp only [Nat.add_right_cancel_iff] at e
    rw [← e1, ← e2]
    congr 1
theorem Ok.form_iso {X : List Cr} (h : Ok X) : ∃ f t, Iso X (formL X) f t := ⟨_, _, h.numbered h.views.2⟩
theorem Ok.form_ok {X : List Cr} (h : Ok X) : Ok (formL X) := by
  obtain ⟨f, t, hi⟩ := h.form_iso
  exact hi.ok h
theorem Ok.form_len {X : List Cr} (h : Ok X) : (formL X).length = X.length := by
  obtain ⟨f, t, hi⟩ := h.form_iso
  exact hi.len
theorem Ok.form_form {X : List Cr} (h : Ok X) : formL (formL X) = formL X := by
  obtain ⟨f, t, hi⟩ := h.form_iso
  exact (hi.form h).symm
end Go.Proofs.YtgjmjbgicfkojaaGreatDoor.Kn

/- Plain: a diagram's text, word by word. -/
namespace Go.Proofs.YtgjmjbgicfkojaaGreatDoor.Tx
open Go
abbrev B := List UInt8
def dd (n : Nat) : B := if n < 10 then [UInt8.ofNat (48 + n)] else [UInt8.ofNat (48 + n / 10), UInt8.ofNat (48 + n % 10)]
theorem dd_eq {n : Nat} (h : n < 100) : Lib.decDigits n = dd n := by
  unfold dd
  by_cases c : n < 10
  · rw [Lib.decDigits, dif_pos c, if_pos c]
  · rw [Lib.decDigits, dif_neg c, if_neg c, Lib.decDigits, dif_pos (by omega)]; rfl
/- a byte that no separator is -/
def okByte (b : UInt8) : Bool := decide (b.toNat < 128) && decide (b ≠ 9) && decide (b ≠ 10) && decide (b ≠ 13) && decide (b ≠ 32)
def ddB (n : Nat) : Bool := decide ((44 : UInt8) ∉ dd n) && (dd n).all okByte && decide ((dd n).length ≤ 2) && decide (1 ≤ (dd n).length) && (Lib.atoi (dd n) == some (n : Int)) && (dd n).all (fun b => decide (48 ≤ b.toNat) && decide (b.toNat ≤ 57))
theorem dd_all : ∀ n : Fin 33, ddB n.val = true := by decide +kernel
structure DD (n : Nat) : Prop where
  comma : (44 : UInt8) ∉ dd n
  ok : ∀ b ∈ dd n, okByte b = true
  len : (dd n).length ≤ 2
  pos : 1 ≤ (dd n).length
  atoi : Lib.atoi (dd n) = some (n : Int)
  dig : ∀ b ∈ dd n, 48 ≤ b.toNat ∧ b.toNat ≤ 57
theorem dd_is {n : Nat} (h : n ≤ 32) : DD n := by
  have := dd_all ⟨n, by omega⟩
  simp only [ddB, Bool.and_eq_true, decide_eq_true_eq, List.all_eq_true, beq_iff_eq] at this
  obtain ⟨⟨⟨⟨⟨h1, h2⟩, h3⟩, h4⟩, h5⟩, h6⟩ := this
  exact ⟨h1, h2, h3, h4, h5, h6⟩

/- joined words -/
def joinW (sep : UInt8) : List B → B
  | [] => []
  | [w] => w
  | w :: x :: ws => w ++ sep :: joinW sep (x :: ws)
theorem join_eq (sep : UInt8) : ∀ ws : List B, Lib.join ws [sep] = joinW sep ws
  | [] => rfl
  | [w] => by simp [Lib.join, joinW, List.intercalate]
  | w :: x :: ws => by
    have ih := join_eq sep (x :: ws)
    unfold Lib.join at ih ⊢
    simp only [joinW]
    rw [← ih]
    simp [List.intercalate]
theorem ib_no {c : UInt8} : ∀ {w : B}, c ∉ w → Lib.indexByte w c = -1
  | [], _ => rfl
  | b :: w, h => by
    have h1 : b ≠ c := fun e => h (by simp [e])
    have h2 : c ∉ w := fun e => h (List.mem_cons_of_mem _ e)
    unfold Lib.indexByte
    rw [ib_no h2]; simp [h1]
theorem ib_at {c : UInt8} : ∀ {w : B} (r : B), c ∉ w → Lib.indexByte (w ++ c :: r) c = w.length
  | [], r, _ => by simp [Lib.indexByte]
  | b :: w, r, h => by
    have h1 : b ≠ c := fun e => h (by simp [e])
    have h2 : c ∉ w := fun e => h (List.mem_cons_of_mem _ e)
    simp only [List.cons_append]
    unfold Lib.indexByte
    rw [ib_at r h2]
    have : ¬ ((w.length : Int) == -1) = true := by simp
    simp [h1]
theorem split_join (c : UInt8) : ∀ (ws : List B), ws ≠ [] → (∀ w ∈ ws, c ∉ w) → Lib.count (joinW c ws) [c] + 1 = ws.length ∧ Lib.splitK [c] 0 (Lib.count (joinW c ws) [c]) (joinW c ws) = ws
  | [], h, _ => absurd rfl h
  | [w], _, hw => by
    have h1 : Lib.index w [c] = -1 := by rw [Lib.index_one]; exact ib_no (hw w (by simp))
    have h2 : Lib.count w [c] = 0 := Lib.count_miss h1
    simp only [joinW]
    rw [h2]
    exact ⟨rfl, rfl⟩
  | w :: x :: ws, _, hw => by
    have ih := split_join c (x :: ws) (by simp) (fun u hu => hw u (List.mem_cons_of_mem _ hu))
    have h1 : Lib.index (w ++ c :: joinW c (x :: ws)) [c] = (w.length : Nat) := by rw [Lib.index_one]; exact ib_at _ (hw w (by simp))
    have hd : (w ++ c :: joinW c (x :: ws)).drop (w.length + 1) = joinW c (x :: ws) := by
      rw [← List.drop_drop, List.drop_left]; rfl
    have h2 := Lib.count_hit (sub := [c]) (by simp) h1
    simp only [List.length_cons, List.length_nil, Nat.zero_add] at h2
    rw [hd] at h2
    simp only [joinW]
    rw [h2]
    refine ⟨by rw [List.length_cons, ← ih.1]; omega, ?_⟩
    rw [Nat.add_comm 1]
    unfold Lib.splitK
    have h3 : ¬ (Lib.index (w ++ c :: joinW c (x :: ws)) [c] == -1) = true := by rw [h1]; simp
    rw [if_neg h3, h1]
    have h4 : ((w.length : Nat) : Int).toNat = w.length := rfl
    simp only [h4, List.length_cons, List.length_nil, Nat.zero_add, Nat.add_zero]
    rw [hd, ih.2, List.take_left]

/- a crossing's word, a loop's word -/
def arcsT (x : Kn.Cr) : List B := [dd x.a.toNat, dd x.b.toNat, dd x.c.toNat, dd x.d.toNat]
def headT (p : Bool) : B := [88, if p then 43 else 45, 91]
def crT (x : Kn.Cr) : B := headT x.p ++ joinW 44 (arcsT x) ++ [93]
def InA (n : Int) : Prop := 1 ≤ n ∧ n ≤ 32
structure InC (x : Kn.Cr) : Prop where
  a : InA x.a
  b : InA x.b
  c : InA x.c
  d : InA x.d
theorem InA.nat {n : Int} (h : InA n) : n.toNat ≤ 32 ∧ ((n.toNat : Nat) : Int) = n := by unfold InA at h; omega
/- a word: none is a loop -/
abbrev Wd := { o : Option Kn.Cr // ∀ x, o = some x → InC x }
def wt (o : Wd) : B := match o.1 with
  | none => [79]
  | some x => crT x
theorem joinW_len (sep : UInt8) : ∀ (ws : List B) (m : Nat), (∀ w ∈ ws, w.length ≤ m) → (joinW sep ws).length ≤ ws.length * (m + 1)
  | [], _, _ => by simp [joinW]
  | [w], m, h => by have := h w (by simp); simp [joinW]; omega
  | w :: x :: ws, m, h => by
    have h1 := h w (by simp)
    have h2 := joinW_len sep (x :: ws) m fun u hu => h u (List.mem_cons_of_mem _ hu)
    simp only [joinW, List.length_append, List.length_cons] at h2 ⊢
    rw [Nat.succ_mul]
    omega
theorem joinW_all {sep : UInt8} {p : UInt8 → Bool} (hs : p sep = true) : ∀ (ws : List B), (∀ w ∈ ws, ∀ b ∈ w, p b = true) → ∀ b ∈ joinW sep ws, p b = true
  | [], _, b, hb => by simp [joinW] at hb
  | [w], h, b, hb => h w (by simp) b (by simpa [joinW] using hb)
  | w :: x :: ws, h, b, hb => by
    simp only [joinW, List.mem_append, List.mem_cons] at hb
    rcases hb with hb | rfl | hb
    · exact h w (by simp) b hb
    · exact hs
    · exact joinW_all hs (x :: ws) (fun u hu => h u (List.mem_cons_of_mem _ hu)) b hb
theorem mem_arcsT {x : Kn.Cr} (h : InC x) {w : B} (hw : w ∈ arcsT x) : ∃ n, n ≤ 32 ∧ w = dd n := by
  simp only [arcsT, List.mem_cons, List.not_mem_nil, or_false] at hw
  rcases hw with rfl | rfl | rfl | rfl
  · exact ⟨_, h.a.nat.1, rfl⟩
  · exact ⟨_, h.b.nat.1, rfl⟩
  · exact ⟨_, h.c.nat.1, rfl⟩
  · exact ⟨_, h.d.nat.1, rfl⟩
theorem crT_ok {x : Kn.Cr} (h : InC x) : ∀ b ∈ crT x, okByte b = true := by
  intro b hb
  unfold crT headT at hb
  simp only [List.mem_append, List.mem_cons, List.not_mem_nil, or_false] at hb
  rcases hb with ((rfl | rfl | rfl) | hb) | rfl
  · decide
  · split <;> decide
  · decide
  · refine joinW_all (p := okByte) (by decide) (arcsT x) (fun w hw c hc => ?_) b hb
    obtain ⟨n, hn, rfl⟩ := mem_arcsT h hw
    exact (dd_is hn).ok c hc
  · decide
theorem crT_len {x : Kn.Cr} (h : InC x) : (crT x).length ≤ 16 := by
  have := joinW_len 44 (arcsT x) 2 fun w hw => by
    obtain ⟨n, hn, rfl⟩ := mem_arcsT h hw
    exact (dd_is hn).len
  simp only [crT, headT, List.length_append, List.length_cons, List.length_nil]
  have h4 : (arcsT x).length = 4 := rfl
  rw [h4] at this
  omega
theorem wt_ok (o : Wd) : (∀ b ∈ wt o, okByte b = true) ∧ (wt o).length ≤ 16 ∧ 1 ≤ (wt o).length := by
  obtain ⟨o, h⟩ := o
  unfold wt
  cases o with
  | none =>
    simp only []
    exact ⟨by intro b hb; rw [List.mem_singleton] at hb; subst hb; decide, by simp, by simp⟩
  | some x => exact ⟨crT_ok (h x rfl), crT_len (h x rfl), by simp [crT, headT]⟩

theorem crT_plus (x : Kn.Cr) : Lib.hasPrefix (crT x) [88, 43, 91] = x.p := by
  obtain ⟨a, b, c, d, p⟩ := x
  cases p <;> rfl
theorem crT_minus (x : Kn.Cr) : Lib.hasPrefix (crT x) [88, 45, 91] = !x.p := by
  obtain ⟨a, b, c, d, p⟩ := x
  cases p <;> rfl
theorem crT_end (x : Kn.Cr) : Lib.hasSuffix (crT x) [93] = true := by
  unfold Lib.hasSuffix
  exact List.isSuffixOf_iff_suffix.2 ⟨headT x.p ++ joinW 44 (arcsT x), rfl⟩
theorem crT_mid (x : Kn.Cr) : ((crT x).drop 3).take ((crT x).length - 4) = joinW 44 (arcsT x) := by
  have h1 : (crT x).drop 3 = joinW 44 (arcsT x) ++ [93] := by
    unfold crT
    rw [List.append_assoc]
    rfl
  have h2 : (crT x).length - 4 = (joinW 44 (arcsT x)).length := by
    simp [crT, headT]
  rw [h1, h2, List.take_left]
/- a word within a joined text -/
def pre (u : List B) : B := u.flatMap (· ++ [32])
def tail (v : List B) : B := if v = [] then [] else 32 :: joinW 32 v
theorem pre_snoc (u : List B) (w : B) : pre (u ++ [w]) = pre u ++ (w ++ [32]) := by simp [pre]
theorem join_at : ∀ (u : List B) (w : B) (v : List B), joinW 32 (u ++ w :: v) = pre u ++ (w ++ tail v)
  | [], w, [] => by simp [joinW, pre, tail]
  | [], w, x :: v => by simp [joinW, pre, tail]
  | [y], w, v => by
    have ih := join_at [] w v
    simp only [List.nil_append] at ih
    simp only [List.cons_append, List.nil_append, joinW, ih]
    simp [pre]
  | y :: z :: u, w, v => by
    have ih := join_at (z :: u) w v
    simp only [List.cons_append] at ih ⊢
    simp only [joinW]
    rw [ih]
    simp [pre]
theorem at_word (u : List B) (w : B) (v : List B) {j : Nat} (h : j < w.length) : (joinW 32 (u ++ w :: v))[(pre u).length + j]? = some w[j] := by
  rw [join_at, List.getElem?_append_right (by omega), Nat.add_sub_cancel_left, List.getElem?_append_left h, List.getElem?_eq_getElem h]
theorem at_end (u : List B) (w : B) {v : List B} (h : v ≠ []) : (joinW 32 (u ++ w :: v))[(pre u).length + w.length]? = some 32 := by
  rw [join_at, List.getElem?_append_right (by omega), Nat.add_sub_cancel_left, List.getElem?_append_right (by omega), Nat.sub_self]
  simp [tail, h]
theorem len_at (u : List B) (w : B) (v : List B) : (joinW 32 (u ++ w :: v)).length = (pre u).length + w.length + (tail v).length := by
  rw [join_at]; simp [Nat.add_assoc]
theorem cut_word (u : List B) (w : B) (v : List B) : ((joinW 32 (u ++ w :: v)).drop (pre u).length).take w.length = w := by
  rw [join_at, List.drop_left, List.take_left]
theorem cut_last (u : List B) (w : B) : (joinW 32 (u ++ w :: [])).drop (pre u).length = w := by
  rw [join_at, List.drop_left]; simp [tail]
end Go.Proofs.YtgjmjbgicfkojaaGreatDoor.Tx

/- The form, whichever way equal views lie. -/
namespace Go.Proofs.YtgjmjbgicfkojaaGreatDoor.Kn

theorem Ok.form_any {X : List Cr} (hX : Ok X) {vs : List Vw} (hp : vs.Perm ((piecesL X).map (Kn.best X))) (hs : vs.Pairwise fun a b => cmpV a b ≤ 0) : Kn.numbered X (vs.flatMap (·.1)) = formL X := by
  obtain ⟨v2, p2⟩ := hX.views
  have hq : vs.Perm (viewsL X) := hp.trans (sortV_perm _).symm
  have v1 : ∀ v ∈ vs, IsVw X v := fun v hv => v2 v (hq.mem_iff.1 hv)
  have p1 : (vs.flatMap (·.1)).Perm (List.range X.length) := (List.Perm.flatMap_right _ hq).trans p2
  obtain ⟨s1, s2⟩ := steps v1 v2 (codes_eq v1 v2 hs (sortV_sorted _) (hq.map _))
  exact numbered_eq hX hX (p1.nodup_iff.2 List.nodup_range) (p2.nodup_iff.2 List.nodup_range) (fun x hx => List.mem_range.1 (p1.mem_iff.1 hx)) (fun x hx => List.mem_range.1 (p2.mem_iff.1 hx)) s1 s2
theorem Ok.form_perm {X : List Cr} (hX : Ok X) {vs : List Vw} (hp : vs.Perm ((piecesL X).map (Kn.best X))) : (vs.flatMap (·.1)).Perm (List.range X.length) := (List.Perm.flatMap_right _ (hp.trans (sortV_perm _).symm)).trans hX.views.2
end Go.Proofs.YtgjmjbgicfkojaaGreatDoor.Kn

/- New numbers, one crossing after the other. -/
namespace Go.Proofs.YtgjmjbgicfkojaaGreatDoor.Kn

theorem meet_pre (N : List Nat) (a : Nat) : N <+: meet N a := by
  unfold meet
  split
  · exact List.prefix_refl _
  · exact List.prefix_append _ _
theorem meet_mem (N : List Nat) (a : Nat) : a ∈ meet N a := by
  unfold meet
  split
  · assumption
  · simp
theorem meets_pre : ∀ (l N : List Nat), N <+: l.foldl meet N
  | [], N => List.prefix_refl _
  | a :: l, N => (meet_pre N a).trans (meets_pre l _)
theorem idx_pre {N M : List Nat} (h : N <+: M) {a : Nat} (ha : a ∈ N) : M.idxOf a = N.idxOf a := by
  obtain ⟨t, rfl⟩ := h
  rw [List.idxOf_append, if_pos ha]
theorem firsts_app (l m : List Nat) : firsts (l ++ m) = m.foldl meet (firsts l) := by unfold firsts; rw [List.foldl_append]
theorem meet_len (N : List Nat) (a : Nat) : (meet N a).length ≤ N.length + 1 := by unfold meet; split <;> simp
theorem firsts_len (l : List Nat) : (firsts l).length ≤ l.length := by
  have : ∀ (l N : List Nat), (l.foldl meet N).length ≤ N.length + l.length := by
    intro l
    induction l with
    | nil => intro N; simp
    | cons a l ih =>
      intro N
      have h1 := ih (meet N a)
      have h2 := meet_len N a
      simp only [List.foldl_cons, List.length_cons]
      omega
  have h := this l []
  unfold firsts
  simpa using h
theorem mem_firsts_self {l : List Nat} {a : Nat} (h : a ∈ l) : a ∈ firsts l := mem_firsts.2 h
/- the four arcs of a crossing, met one after the other -/
def meet4 (N : List Nat) (a b c d : Nat) : List Nat := meet (meet (meet (meet N a) b) c) d
theorem meet4_idx (N : List Nat) (a b c d : Nat) : (meet4 N a b c d).idxOf a = (meet N a).idxOf a ∧ (meet4 N a b c d).idxOf b = (meet (meet N a) b).idxOf b ∧ (meet4 N a b c d).idxOf c = (meet (meet (meet N a) b) c).idxOf c ∧ (meet4 N a b c d).idxOf d = (meet (meet (meet (meet N a) b) c) d).idxOf d :=
  ⟨idx_pre (((meet_pre _ _).trans (meet_pre _ _)).trans (meet_pre _ _)) (meet_mem _ _), idx_pre ((meet_pre _ _).trans (meet_pre _ _)) (meet_mem _ _), idx_pre (meet_pre _ _) (meet_mem _ _), rfl⟩
theorem firsts_snoc (X : List Cr) (os : List Nat) (c : Nat) : firsts ((os ++ [c]).flatMap (arcsOf X)) = meet4 (firsts (os.flatMap (arcsOf X))) (arcN X (c, 0)) (arcN X (c, 1)) (arcN X (c, 2)) (arcN X (c, 3)) := by
  rw [List.flatMap_append, firsts_app]
  simp only [List.flatMap_cons, List.flatMap_nil, List.append_nil]
  rfl
theorem numbered_snoc (X : List Cr) (os : List Nat) (c : Nat) : numbered X (os ++ [c]) = numbered X os ++ [(cr X c).ren fun a => (firsts ((os ++ [c]).flatMap (arcsOf X))).idxOf a + 1] := by
  unfold numbered
  rw [List.map_append]
  congr 1
  refine List.map_congr_left fun d hd => ?_
  have hk : ∀ a ∈ arcsOf X d, (firsts ((os ++ [c]).flatMap (arcsOf X))).idxOf a = (firsts (os.flatMap (arcsOf X))).idxOf a := fun a ha => by
    rw [List.flatMap_append, firsts_app]
    exact idx_pre (meets_pre _ _) (mem_firsts.2 (List.mem_flatMap.2 ⟨d, hd, ha⟩))
  have h0 := hk (cr X d).a.toNat (by unfold arcsOf arcN at_ Cr.arc; simp)
  have h1 := hk (cr X d).b.toNat (by unfold arcsOf arcN at_ Cr.arc; simp)
  have h2 := hk (cr X d).c.toNat (by unfold arcsOf arcN at_ Cr.arc; simp)
  have h3 := hk (cr X d).d.toNat (by unfold arcsOf arcN at_ Cr.arc; simp)
  unfold Cr.ren
  simp only [h0, h1, h2, h3]
end Go.Proofs.YtgjmjbgicfkojaaGreatDoor.Kn
