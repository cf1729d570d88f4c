/- Plain mathematics of diagrams, joined. -/
/- Rings of a list, of which each member has a next one: plain mathematics. -/
namespace Go.Proofs.Ytcfpdeeipbekfaa.Kn

section
variable {α : Type} [DecidableEq α] (nx : α → α)
def ring : Nat → List α → α → List α
  | 0, _, _ => []
  | k + 1, seen, x => if x ∈ seen then [] else x :: ring k (seen ++ [x]) (nx x)
def rings (N : Nat) : List α → List α → List (List α)
  | _, [] => []
  | seen, d :: ds => if d ∈ seen then rings N seen ds else ring nx N seen d :: rings N (seen ++ ring nx N seen d) ds

theorem ring_seen {k : Nat} {seen : List α} {x : α} (h : x ∈ seen) : ring nx k seen x = [] := by
  cases k with
  | zero => rfl
  | succ k => rw [ring, if_pos h]
theorem ring_new {k : Nat} {seen : List α} {x : α} (h : x ∉ seen) : ring nx (k + 1) seen x = x :: ring nx k (seen ++ [x]) (nx x) := by rw [ring, if_neg h]
theorem rings_nil (N : Nat) (seen : List α) : rings nx N seen [] = [] := by rw [rings]
theorem rings_seen {N : Nat} {seen ds : List α} {d : α} (h : d ∈ seen) : rings nx N seen (d :: ds) = rings nx N seen ds := by rw [rings, if_pos h]
theorem rings_new {N : Nat} {seen ds : List α} {d : α} (h : d ∉ seen) : rings nx N seen (d :: ds) = ring nx N seen d :: rings nx N (seen ++ ring nx N seen d) ds := by rw [rings, if_neg h]

/- a duplicate-free list within another one is no longer -/
theorem nodup_le : ∀ {l m : List α}, l.Nodup → (∀ x ∈ l, x ∈ m) → l.length ≤ m.length
  | [], _, _, _ => Nat.zero_le _
  | a :: l, m, hn, hs => by
    have ha : a ∈ m := hs a (by simp)
    rw [List.nodup_cons] at hn
    have h1 : l.length ≤ (m.erase a).length := nodup_le hn.2 fun x hx => by
      have hne : x ≠ a := fun e => hn.1 (e ▸ hx)
      exact (List.mem_erase_of_ne hne).2 (hs x (by simp [hx]))
    rw [List.length_erase_of_mem ha] at h1
    have h2 : 0 < m.length := List.length_pos_of_mem ha
    simp only [List.length_cons]; omega
theorem fuel {l m : List α} {x : α} (hn : l.Nodup) (hs : ∀ y ∈ l, y ∈ m) (hx : x ∉ l) (hm : x ∈ m) : l.length + 1 ≤ m.length := by
  have := nodup_le (l := x :: l) (m := m) (List.nodup_cons.2 ⟨hx, hn⟩) (fun y hy => by
    rcases List.mem_cons.1 hy with rfl | h
    · exact hm
    · exact hs y h)
  simpa using this
omit [DecidableEq α] in
theorem nodup_snoc {l : List α} {x : α} (hn : l.Nodup) (hx : x ∉ l) : (l ++ [x]).Nodup := by
  rw [List.nodup_append]
  exact ⟨hn, by simp, fun a ha b hb => by
    rw [List.mem_singleton] at hb; subst hb; exact fun e => hx (e ▸ ha)⟩

/- what a ring is: it adds what is new, no one twice -/
theorem ring_nodup : ∀ (k : Nat) {seen : List α} (x : α), seen.Nodup → (seen ++ ring nx k seen x).Nodup
  | 0, seen, x, h => by rw [ring]; simpa using h
  | k + 1, seen, x, h => by
    by_cases c : x ∈ seen
    · rw [ring_seen nx c]; simpa using h
    · rw [ring_new nx c]
      have := ring_nodup k (seen := seen ++ [x]) (nx x) (nodup_snoc h c)
      simpa using this
theorem ring_sub {all : List α} (hall : ∀ x ∈ all, nx x ∈ all) : ∀ (k : Nat) (seen : List α) {x : α}, x ∈ all → ∀ y ∈ ring nx k seen x, y ∈ all
  | 0, seen, x, h, y, hy => by rw [ring] at hy; cases hy
  | k + 1, seen, x, h, y, hy => by
    by_cases c : x ∈ seen
    · rw [ring_seen nx c] at hy; cases hy
    · rw [ring_new nx c] at hy
      rcases List.mem_cons.1 hy with rfl | hy
      · exact h
      · exact ring_sub hall k _ (hall x h) y hy
theorem ring_head {k : Nat} {seen : List α} {x : α} (h : x ∉ seen) (hk : 0 < k) : x ∈ ring nx k seen x := by
  obtain ⟨j, rfl⟩ : ∃ j, k = j + 1 := ⟨k - 1, by omega⟩
  rw [ring_new nx h]; simp
theorem rings_nodup (N : Nat) : ∀ (ds : List α) {seen : List α}, seen.Nodup → (seen ++ (rings nx N seen ds).flatten).Nodup
  | [], seen, h => by rw [rings]; simpa using h
  | d :: ds, seen, h => by
    by_cases c : d ∈ seen
    · rw [rings_seen nx c]; exact rings_nodup N ds h
    · rw [rings_new nx c, List.flatten_cons, ← List.append_assoc]
      exact rings_nodup N ds (ring_nodup nx N d h)
theorem rings_sub {all : List α} (hall : ∀ x ∈ all, nx x ∈ all) (N : Nat) : ∀ (ds : List α) (seen : List α), (∀ d ∈ ds, d ∈ all) → ∀ y ∈ (rings nx N seen ds).flatten, y ∈ all
  | [], seen, _, y, hy => by rw [rings] at hy; cases hy
  | d :: ds, seen, h, y, hy => by
    by_cases c : d ∈ seen
    · rw [rings_seen nx c] at hy
      exact rings_sub hall N ds seen (fun x hx => h x (by simp [hx])) y hy
    · rw [rings_new nx c, List.flatten_cons, List.mem_append] at hy
      rcases hy with hy | hy
      · exact ring_sub nx hall N seen (h d (by simp)) y hy
      · exact rings_sub hall N ds _ (fun x hx => h x (by simp [hx])) y hy
theorem rings_cover {N : Nat} (hN : 0 < N) : ∀ (ds : List α) (seen : List α) {x : α}, (x ∈ seen ∨ x ∈ ds) → x ∈ seen ++ (rings nx N seen ds).flatten
  | [], seen, x, h => by
    rw [rings]
    rcases h with h | h
    · simp [h]
    · cases h
  | d :: ds, seen, x, h => by
    by_cases c : d ∈ seen
    · rw [rings_seen nx c]
      refine rings_cover hN ds seen ?_
      rcases h with h | h
      · exact .inl h
      · rcases List.mem_cons.1 h with rfl | h
        · exact .inl c
        · exact .inr h
    · rw [rings_new nx c, List.flatten_cons, ← List.append_assoc]
      refine rings_cover hN ds _ ?_
      rcases h with h | h
      · exact .inl (by simp [h])
      · rcases List.mem_cons.1 h with rfl | h
        · exact .inl (List.mem_append.2 (.inr (ring_head nx c hN)))
        · exact .inr h
theorem rings_len (N : Nat) : ∀ (ds seen : List α), (rings nx N seen ds).length ≤ ds.length
  | [], seen => by rw [rings]; exact Nat.le_refl _
  | d :: ds, seen => by
    by_cases c : d ∈ seen
    · rw [rings_seen nx c]; have := rings_len N ds seen; simp only [List.length_cons]; omega
    · rw [rings_new nx c]; have := rings_len N ds (seen ++ ring nx N seen d); simp only [List.length_cons]; omega
/- the rings of all: each once -/
theorem rings_perm {all : List α} (hn : all.Nodup) (hall : ∀ x ∈ all, nx x ∈ all) {N : Nat} (hN : 0 < N) : (rings nx N [] all).flatten.Perm all := by
  have h1 := rings_nodup nx N all (seen := []) (by simp)
  have h2 := rings_sub nx hall N all [] (fun d h => h)
  have h3 := fun x hx => rings_cover nx hN all [] (x := x) (.inr hx)
  rw [List.nil_append] at h1
  refine (List.perm_ext_iff_of_nodup h1 hn).2 fun x => ⟨h2 x, fun hx => ?_⟩
  have := h3 x hx
  rwa [List.nil_append] at this
/- none of them is empty -/
theorem rings_ne {N : Nat} (hN : 0 < N) : ∀ (ds : List α) (seen : List α), ∀ r ∈ rings nx N seen ds, r ≠ []
  | [], seen, r, h => by rw [rings] at h; cases h
  | d :: ds, seen, r, h => by
    by_cases c : d ∈ seen
    · rw [rings_seen nx c] at h
      exact rings_ne hN ds seen r h
    · rw [rings_new nx c] at h
      rcases List.mem_cons.1 h with rfl | h
      · exact List.ne_nil_of_mem (ring_head nx c hN)
      · exact rings_ne hN ds _ r h
end
end Go.Proofs.Ytcfpdeeipbekfaa.Kn

/- Diagrams as lists of crossings: places, arcs, what may be: plain mathematics. -/
namespace Go.Proofs.Ytcfpdeeipbekfaa.Kn

structure Cr where
  a : Int
  b : Int
  c : Int
  d : Int
  p : Bool
deriving DecidableEq, Inhabited

def Cr.arc (x : Cr) (s : Nat) : Int := if s = 0 then x.a else if s = 1 then x.b else if s = 2 then x.c else x.d
def over (p : Bool) : Nat := if p then 3 else 1
def Cr.comes (x : Cr) (s : Nat) : Bool := decide (s = 0) || decide (s = over x.p)
abbrev Pl := Nat × Nat
def cr (X : List Cr) (c : Nat) : Cr := X.getD c default
def at_ (X : List Cr) (p : Pl) : Int := (cr X p.1).arc p.2
def cm (X : List Cr) (p : Pl) : Bool := (cr X p.1).comes p.2
/- the k-th place -/
def pl (k : Nat) : Pl := (k / 4, k % 4)
theorem pl_mk {c s : Nat} (hs : s < 4) : pl (c * 4 + s) = (c, s) := by
  unfold pl; rw [show (c * 4 + s) / 4 = c by omega, show (c * 4 + s) % 4 = s by omega]
def pk (p : Pl) : Nat := p.1 * 4 + p.2
theorem pl_pk {p : Pl} (h : p.2 < 4) : pl (pk p) = p := pl_mk h

/- how often an arc comes in (goes out) at the first k places, and where last -/
def cnt (X : List Cr) (io : Bool) : Nat → Nat → Nat
  | 0, _ => 0
  | k + 1, a => cnt X io k a + if cm X (pl k) = io ∧ at_ X (pl k) = a then 1 else 0
def last (X : List Cr) (io : Bool) : Nat → Nat → Pl
  | 0, _ => (0, 0)
  | k + 1, a => if cm X (pl k) = io ∧ at_ X (pl k) = a then pl k else last X io k a
theorem cnt_succ (X : List Cr) (io : Bool) (k a : Nat) : cnt X io (k + 1) a = cnt X io k a + if cm X (pl k) = io ∧ at_ X (pl k) = a then 1 else 0 := rfl
theorem last_succ (X : List Cr) (io : Bool) (k a : Nat) : last X io (k + 1) a = if cm X (pl k) = io ∧ at_ X (pl k) = a then pl k else last X io k a := rfl
theorem cnt_le (X : List Cr) (io : Bool) (a : Nat) : ∀ k, cnt X io k a ≤ k
  | 0 => Nat.le_refl _
  | k + 1 => by
    have := cnt_le X io a k
    rw [cnt_succ]; split <;> omega
def nArcs (X : List Cr) : Nat := 2 * X.length
/- arcs in range; each comes in once and goes out once -/
def inRange (X : List Cr) (k : Nat) : Prop := ∀ j, j < k → 1 ≤ at_ X (pl j) ∧ at_ X (pl j) ≤ (nArcs X : Int)
def once (X : List Cr) (m : Nat) : Prop := ∀ a, 1 ≤ a → a ≤ m → cnt X true (4 * X.length) a = 1 ∧ cnt X false (4 * X.length) a = 1
def okB (X : List Cr) : Bool :=
  (List.range (4 * X.length)).all (fun j => decide (1 ≤ at_ X (pl j)) && decide (at_ X (pl j) ≤ (nArcs X : Int))) &&
  (List.range (nArcs X)).all (fun a => decide (cnt X true (4 * X.length) (a + 1) = 1) && decide (cnt X false (4 * X.length) (a + 1) = 1))
theorem okB_iff (X : List Cr) : okB X = true ↔ inRange X (4 * X.length) ∧ once X (nArcs X) := by
  unfold okB inRange once
  simp only [Bool.and_eq_true, List.all_eq_true, List.mem_range, decide_eq_true_eq]
  refine and_congr Iff.rfl ⟨fun h a h1 h2 => ?_, fun h a h1 => h (a + 1) (by omega) (by omega)⟩
  have := h (a - 1) (by omega)
  rwa [show a - 1 + 1 = a by omega] at this
def mayB (X : List Cr) (L : Int) : Bool := decide (X.length ≤ 16) && decide (0 ≤ L) && decide (L ≤ 16) && !(decide (X.length = 0) && decide (L = 0)) && okB X

/- the last place found is one, if there is one -/
theorem last_of {X : List Cr} {io : Bool} {a : Nat} : ∀ {k : Nat}, 1 ≤ cnt X io k a → ∃ j, j < k ∧ last X io k a = pl j ∧ cm X (pl j) = io ∧ at_ X (pl j) = a
  | 0, h => by simp [cnt] at h
  | k + 1, h => by
    rw [cnt_succ] at h
    rw [last_succ]
    by_cases c : cm X (pl k) = io ∧ at_ X (pl k) = a
    · rw [if_pos c]; exact ⟨k, by omega, rfl, c⟩
    · rw [if_neg c] at h ⊢
      obtain ⟨j, hj, r⟩ := last_of (k := k) (by omega)
      exact ⟨j, by omega, r⟩
theorem cnt_pos {X : List Cr} {io : Bool} {a : Nat} : ∀ {k j : Nat}, j < k → cm X (pl j) = io → at_ X (pl j) = a → 1 ≤ cnt X io k a
  | k + 1, j, hj, h1, h2 => by
    rw [cnt_succ]
    by_cases c : j = k
    · subst c; rw [if_pos ⟨h1, h2⟩]; omega
    · have := cnt_pos (k := k) (j := j) (by omega) h1 h2; omega
theorem cnt_two {X : List Cr} {io : Bool} {a : Nat} : ∀ {k i j : Nat}, i < j → j < k → cm X (pl i) = io → at_ X (pl i) = a → cm X (pl j) = io → at_ X (pl j) = a → 2 ≤ cnt X io k a
  | k + 1, i, j, hij, hj, h1, h2, h3, h4 => by
    rw [cnt_succ]
    by_cases c : j = k
    · subst c
      have := cnt_pos (k := j) hij h1 h2
      rw [if_pos ⟨h3, h4⟩]; omega
    · have := cnt_two (k := k) hij (by omega) h1 h2 h3 h4; omega

/- places of a diagram -/
def isPl (X : List Cr) (p : Pl) : Prop := p.1 < X.length ∧ p.2 < 4
def inP (X : List Cr) (a : Nat) : Pl := last X true (4 * X.length) a
def outP (X : List Cr) (a : Nat) : Pl := last X false (4 * X.length) a
def endP (X : List Cr) (io : Bool) (a : Nat) : Pl := last X io (4 * X.length) a
structure Ok (X : List Cr) : Prop where
  rng : ∀ p, isPl X p → 1 ≤ at_ X p ∧ at_ X p ≤ (nArcs X : Int)
  end_ : ∀ (io : Bool) (a : Nat), 1 ≤ a → a ≤ nArcs X → isPl X (endP X io a) ∧ cm X (endP X io a) = io ∧ at_ X (endP X io a) = a
  uniq : ∀ p q, isPl X p → isPl X q → cm X p = cm X q → at_ X p = at_ X q → p = q
theorem isPl_pl {X : List Cr} {j : Nat} (h : j < 4 * X.length) : isPl X (pl j) := ⟨by unfold pl; simp only; omega, by unfold pl; simp only; omega⟩
theorem pk_lt {X : List Cr} {p : Pl} (h : isPl X p) : pk p < 4 * X.length := by
  unfold pk; have := h.1; have := h.2; omega
theorem ok_iff (X : List Cr) : okB X = true ↔ Ok X := by
  rw [okB_iff]
  constructor
  · rintro ⟨h1, h2⟩
    have hr : ∀ p, isPl X p → 1 ≤ at_ X p ∧ at_ X p ≤ (nArcs X : Int) := fun p hp => by
      have := h1 (pk p) (pk_lt hp)
      rwa [pl_pk hp.2] at this
    refine ⟨hr, fun io a ha hb => ?_, fun p q hp hq hc ha => ?_⟩
    · have h3 : 1 ≤ cnt X io (4 * X.length) a := by
        have := h2 a ha hb
        cases io <;> omega
      obtain ⟨j, hj, e, e1, e2⟩ := last_of h3
      unfold endP
      rw [e]
      exact ⟨isPl_pl hj, e1, e2⟩
    · obtain ⟨h3, h4⟩ := hr p hp
      obtain ⟨n, hn⟩ : ∃ n : Nat, at_ X p = n := ⟨(at_ X p).toNat, by omega⟩
      have h5 := h2 n (by omega) (by omega)
      have h6 : cnt X (cm X p) (4 * X.length) n = 1 := by cases cm X p <;> first | exact h5.2 | exact h5.1
      rcases Nat.lt_trichotomy (pk p) (pk q) with c | c | c
      · have := cnt_two (X := X) (io := cm X p) (a := n) c (pk_lt hq) (by rw [pl_pk hp.2]) (by rw [pl_pk hp.2]; exact hn) (by rw [pl_pk hq.2]; exact hc.symm) (by rw [pl_pk hq.2, ← ha]; exact hn)
        omega
      · have : pl (pk p) = pl (pk q) := by rw [c]
        rwa [pl_pk hp.2, pl_pk hq.2] at this
      · have := cnt_two (X := X) (io := cm X p) (a := n) c (pk_lt hp) (by rw [pl_pk hq.2]; exact hc.symm) (by rw [pl_pk hq.2, ← ha]; exact hn) (by rw [pl_pk hp.2]) (by rw [pl_pk hp.2]; exact hn)
        omega
  · intro h
    refine ⟨fun j hj => h.rng _ (isPl_pl hj), fun a ha hb => ?_⟩
    have key : ∀ io, cnt X io (4 * X.length) a = 1 := fun io => by
      obtain ⟨h1, h2, h3⟩ := h.end_ io a ha hb
      have hp : 1 ≤ cnt X io (4 * X.length) a := cnt_pos (pk_lt h1) (by rw [pl_pk h1.2]; exact h2) (by rw [pl_pk h1.2]; exact h3)
      have hu : ∀ k, k ≤ 4 * X.length → cnt X io k a ≤ if pk (endP X io a) < k then 1 else 0 := by
        intro k
        induction k with
        | zero => intro _; simp [cnt]
        | succ k ih =>
          intro hk
          have h4 := ih (by omega)
          rw [cnt_succ]
          by_cases c : cm X (pl k) = io ∧ at_ X (pl k) = a
          · have : pl k = endP X io a := h.uniq _ _ (isPl_pl (by omega)) h1 (c.1.trans h2.symm) (c.2.trans h3.symm)
            have e : k = pk (endP X io a) := by
              rw [← this]; unfold pk pl; simp only; omega
            rw [← e] at h4 ⊢
            rw [if_neg (by omega)] at h4
            rw [if_pos c, if_pos (by omega)]; omega
          · rw [if_neg c]
            split at h4 <;> split <;> omega
      have := hu _ (Nat.le_refl _)
      split at this <;> omega
    exact ⟨key true, key false⟩
instance (X : List Cr) : Decidable (Ok X) := decidable_of_iff _ (ok_iff X)

/- the arc at a place, as a number; the place at its other end; the next arc of a strand; the dart to the left -/
def arcN (X : List Cr) (p : Pl) : Nat := (at_ X p).toNat
def other (X : List Cr) (p : Pl) : Pl := endP X (!cm X p) (arcN X p)
def nextA (X : List Cr) (a : Nat) : Nat := arcN X ((endP X true a).1, ((endP X true a).2 + 2) % 4)
abbrev Dt := Nat × Bool
def head (X : List Cr) (d : Dt) : Pl := endP X (!d.2) d.1
def left (X : List Cr) (d : Dt) : Dt := (arcN X ((head X d).1, ((head X d).2 + 3) % 4), cm X ((head X d).1, ((head X d).2 + 3) % 4))
def isArc (X : List Cr) (a : Nat) : Prop := 1 ≤ a ∧ a ≤ nArcs X
section
variable {X : List Cr}
theorem Ok.arcN_eq (h : Ok X) {p : Pl} (hp : isPl X p) : ((arcN X p : Nat) : Int) = at_ X p := by
  have := h.rng p hp; unfold arcN; omega
theorem Ok.isArc (h : Ok X) {p : Pl} (hp : isPl X p) : isArc X (arcN X p) := by
  have := h.rng p hp; have := h.arcN_eq hp; unfold Kn.isArc; omega
theorem Ok.isPl_end (h : Ok X) {io : Bool} {a : Nat} (ha : Kn.isArc X a) : isPl X (endP X io a) := (h.end_ io a ha.1 ha.2).1
theorem Ok.cm_end (h : Ok X) {io : Bool} {a : Nat} (ha : Kn.isArc X a) : cm X (endP X io a) = io := (h.end_ io a ha.1 ha.2).2.1
theorem Ok.at_end (h : Ok X) {io : Bool} {a : Nat} (ha : Kn.isArc X a) : at_ X (endP X io a) = a := (h.end_ io a ha.1 ha.2).2.2
theorem Ok.arc_end (h : Ok X) {io : Bool} {a : Nat} (ha : Kn.isArc X a) : arcN X (endP X io a) = a := by
  unfold arcN; rw [h.at_end ha]; rfl
theorem Ok.end_eq (h : Ok X) {p : Pl} (hp : isPl X p) : endP X (cm X p) (arcN X p) = p :=
  h.uniq _ _ (h.isPl_end (h.isArc hp)) hp (h.cm_end (h.isArc hp)) (by rw [h.at_end (h.isArc hp), h.arcN_eq hp])
theorem Ok.isPl_other (h : Ok X) {p : Pl} (hp : isPl X p) : isPl X (other X p) := h.isPl_end (h.isArc hp)
theorem Ok.cm_other (h : Ok X) {p : Pl} (hp : isPl X p) : cm X (other X p) = !cm X p := h.cm_end (h.isArc hp)
theorem Ok.arc_other (h : Ok X) {p : Pl} (hp : isPl X p) : arcN X (other X p) = arcN X p := h.arc_end (h.isArc hp)
theorem Ok.other_other (h : Ok X) {p : Pl} (hp : isPl X p) : other X (other X p) = p := by
  have h1 := h.end_eq hp
  show endP X (!cm X (other X p)) (arcN X (other X p)) = p
  rw [h.cm_other hp, h.arc_other hp, Bool.not_not, h1]
theorem isPl_turn {p : Pl} (hp : isPl X p) (k : Nat) : isPl X (p.1, (p.2 + k) % 4) := ⟨hp.1, Nat.mod_lt _ (by omega)⟩
theorem Ok.isArc_next (h : Ok X) {a : Nat} (ha : Kn.isArc X a) : Kn.isArc X (nextA X a) := h.isArc (isPl_turn (h.isPl_end ha) 2)
theorem Ok.isPl_head (h : Ok X) {d : Dt} (ha : Kn.isArc X d.1) : isPl X (head X d) := h.isPl_end ha
theorem Ok.isArc_left (h : Ok X) {d : Dt} (ha : Kn.isArc X d.1) : Kn.isArc X (left X d).1 := h.isArc (isPl_turn (h.isPl_head ha) 3)
end

/- all darts in order; faces; strands -/
def dart (k : Nat) : Dt := (k / 2 + 1, decide (k % 2 = 1))
def darts (X : List Cr) : List Dt := (List.range (4 * X.length)).map dart
def facesL (X : List Cr) : List (List Dt) := rings (left X) (4 * X.length + 1) [] (darts X)
def arcs (X : List Cr) : List Nat := (List.range (nArcs X)).map (· + 1)
def strandsL (X : List Cr) : List (List Nat) := rings (nextA X) (nArcs X + 1) [] (arcs X)
theorem dart_inj {j k : Nat} (h : dart j = dart k) : j = k := by
  unfold dart at h
  injection h with h1 h2
  have : (j % 2 = 1) ↔ (k % 2 = 1) := by
    constructor <;> intro e
    · exact of_decide_eq_true (h2 ▸ decide_eq_true e)
    · exact of_decide_eq_true (h2.symm ▸ decide_eq_true e)
  omega
theorem darts_nodup (X : List Cr) : (darts X).Nodup := by
  unfold darts
  rw [List.Nodup, List.pairwise_map]
  exact List.Pairwise.imp (fun hne e => hne (dart_inj e)) (List.nodup_range)
theorem mem_darts {X : List Cr} {d : Dt} : d ∈ darts X ↔ isArc X d.1 := by
  unfold darts isArc nArcs
  rw [List.mem_map]
  constructor
  · rintro ⟨k, hk, rfl⟩
    rw [List.mem_range] at hk
    unfold dart; simp only; omega
  · rintro ⟨h1, h2⟩
    obtain ⟨a, b⟩ := d
    refine ⟨2 * (a - 1) + if b then 1 else 0, List.mem_range.2 (by cases b <;> simp <;> simp only at h2 <;> omega), ?_⟩
    unfold dart
    cases b <;> simp <;> simp only at h1 <;> omega
theorem darts_length (X : List Cr) : (darts X).length = 4 * X.length := by simp [darts]
theorem mem_arcs {X : List Cr} {a : Nat} : a ∈ arcs X ↔ isArc X a := by
  unfold arcs isArc
  rw [List.mem_map]
  constructor
  · rintro ⟨k, hk, rfl⟩
    rw [List.mem_range] at hk; omega
  · rintro ⟨h1, h2⟩
    exact ⟨a - 1, List.mem_range.2 (by omega), by omega⟩
theorem arcs_nodup (X : List Cr) : (arcs X).Nodup := by
  unfold arcs
  rw [List.Nodup, List.pairwise_map]
  exact List.Pairwise.imp (fun hne e => hne (by omega)) (List.nodup_range)
theorem arcs_length (X : List Cr) : (arcs X).length = nArcs X := by simp [arcs]
theorem faces_perm {X : List Cr} (h : Ok X) : (facesL X).flatten.Perm (darts X) :=
  rings_perm _ (darts_nodup X) (fun d hd => mem_darts.2 (h.isArc_left (mem_darts.1 hd))) (by omega)
theorem strands_perm {X : List Cr} (h : Ok X) : (strandsL X).flatten.Perm (arcs X) :=
  rings_perm _ (arcs_nodup X) (fun d hd => mem_arcs.2 (h.isArc_next (mem_arcs.1 hd))) (by omega)

end Go.Proofs.Ytcfpdeeipbekfaa.Kn

/- Pieces of a diagram, and a piece as seen from a crossing: plain mathematics. -/
namespace Go.Proofs.Ytcfpdeeipbekfaa.Kn

section
variable (nb : Nat → List Nat) (seen : List Nat)
def addN : List Nat → List Nat → List Nat
  | l, [] => l
  | l, k :: ks => addN (if k ∈ seen ∨ k ∈ l then l else l ++ [k]) ks
def grow : Nat → Nat → List Nat → List Nat
  | 0, _, l => l
  | k + 1, i, l => if i < l.length then grow k (i + 1) (addN seen l (nb (l.getD i 0))) else l
inductive Conn : Nat → Nat → Prop
  | refl (c : Nat) : Conn c c
  | step {c d e : Nat} : Conn c d → e ∈ nb d → Conn c e
variable {nb seen}
theorem Conn.trans {c d e : Nat} (h : Conn nb c d) (k : Conn nb d e) : Conn nb c e := by
  induction k with
  | refl => exact h
  | step _ he ih => exact .step ih he
theorem Conn.symm (hs : ∀ x y, y ∈ nb x → x ∈ nb y) {c d : Nat} (h : Conn nb c d) : Conn nb d c := by
  induction h with
  | refl => exact .refl _
  | step _ he ih => exact (Conn.step (.refl _) (hs _ _ he)).trans ih
theorem mem_one {l : List Nat} {k x : Nat} : x ∈ (if k ∈ seen ∨ k ∈ l then l else l ++ [k]) ↔ x ∈ l ∨ (x = k ∧ k ∉ seen) := by
  split
  · next h =>
    constructor
    · exact .inl
    · rintro (h1 | ⟨rfl, h2⟩)
      · exact h1
      · exact h.resolve_left h2
  · next h =>
    rw [List.mem_append, List.mem_singleton]
    constructor
    · rintro (h1 | rfl)
      · exact .inl h1
      · exact .inr ⟨rfl, fun e => h (.inl e)⟩
    · rintro (h1 | ⟨rfl, _⟩)
      · exact .inl h1
      · exact .inr rfl
theorem mem_addN : ∀ {ks l : List Nat} {x : Nat}, x ∈ addN seen l ks ↔ x ∈ l ∨ (x ∈ ks ∧ x ∉ seen)
  | [], l, x => by rw [addN]; simp
  | k :: ks, l, x => by
    rw [addN, mem_addN, mem_one, List.mem_cons]
    constructor
    · rintro ((h | ⟨rfl, h⟩) | ⟨h, h2⟩)
      · exact .inl h
      · exact .inr ⟨.inl rfl, h⟩
      · exact .inr ⟨.inr h, h2⟩
    · rintro (h | ⟨rfl | h, h2⟩)
      · exact .inl (.inl h)
      · exact .inl (.inr ⟨rfl, h2⟩)
      · exact .inr ⟨h, h2⟩
theorem one_pre (l : List Nat) (k : Nat) : l <+: (if k ∈ seen ∨ k ∈ l then l else l ++ [k]) := by
  split
  · exact List.prefix_refl _
  · exact List.prefix_append _ _
theorem addN_pre : ∀ (ks l : List Nat), l <+: addN seen l ks
  | [], l => by rw [addN]; exact List.prefix_refl _
  | k :: ks, l => by rw [addN]; exact (one_pre l k).trans (addN_pre ks _)
theorem one_nodup {l : List Nat} (h : l.Nodup) (k : Nat) : (if k ∈ seen ∨ k ∈ l then l else l ++ [k]).Nodup := by
  split
  · exact h
  · next c => exact nodup_snoc h fun e => c (.inr e)
theorem addN_nodup : ∀ (ks : List Nat) {l : List Nat}, l.Nodup → (addN seen l ks).Nodup
  | [], l, h => by rw [addN]; exact h
  | k :: ks, l, h => by rw [addN]; exact addN_nodup ks (one_nodup h k)
theorem grow_pre : ∀ (k i : Nat) (l : List Nat), l <+: grow nb seen k i l
  | 0, _, l => by rw [grow]; exact List.prefix_refl _
  | k + 1, i, l => by
    rw [grow]; split
    · exact (addN_pre _ _).trans (grow_pre k _ _)
    · exact List.prefix_refl _
theorem grow_nodup : ∀ (k i : Nat) {l : List Nat}, l.Nodup → (grow nb seen k i l).Nodup
  | 0, _, l, h => by rw [grow]; exact h
  | k + 1, i, l, h => by
    rw [grow]; split
    · exact grow_nodup k _ (addN_nodup _ h)
    · exact h
theorem getD_mem {l : List Nat} {i : Nat} (h : i < l.length) : l.getD i 0 ∈ l := by
  rw [List.getD_eq_getElem?_getD, List.getElem?_eq_getElem h]; exact List.getElem_mem h
theorem grow_all {P : Nat → Prop} (hP : ∀ x, P x → ∀ y ∈ nb x, y ∉ seen → P y) : ∀ (k i : Nat) {l : List Nat}, (∀ x ∈ l, P x) → ∀ x ∈ grow nb seen k i l, P x
  | 0, _, l, h => by rw [grow]; exact h
  | k + 1, i, l, h => by
    rw [grow]; split
    · next c =>
      refine grow_all hP k _ fun x hx => ?_
      rcases mem_addN.1 hx with h1 | ⟨h1, h2⟩
      · exact h x h1
      · exact hP _ (h _ (getD_mem c)) x h1 h2
    · exact h
theorem grow_closed {m : List Nat} (hm : ∀ x ∈ m, ∀ y ∈ nb x, y ∈ m) : ∀ (k i : Nat) {l : List Nat}, l.Nodup → (∀ x ∈ l, x ∈ m) → (∀ j, j < i → j < l.length → ∀ y ∈ nb (l.getD j 0), y ∈ seen ∨ y ∈ l) → m.length + 1 ≤ k + i →
    ∀ x ∈ grow nb seen k i l, ∀ y ∈ nb x, y ∈ seen ∨ y ∈ grow nb seen k i l
  | 0, i, l, hn, hl, hc, hk, x, hx, y, hy => by
    rw [grow] at hx ⊢
    have := nodup_le hn hl
    obtain ⟨j, hj, rfl⟩ := List.getElem_of_mem hx
    refine hc j (by omega) hj y ?_
    rwa [List.getD_eq_getElem?_getD, List.getElem?_eq_getElem hj]
  | k + 1, i, l, hn, hl, hc, hk, x, hx, y, hy => by
    rw [grow] at hx ⊢
    by_cases c : i < l.length
    · rw [if_pos c] at hx ⊢
      refine grow_closed hm k (i + 1) (addN_nodup _ hn) (fun x hx => ?_) (fun j hj hjl y hy => ?_) (by omega) x hx y hy
      · rcases mem_addN.1 hx with h1 | ⟨h1, h2⟩
        · exact hl x h1
        · exact hm _ (hl _ (getD_mem c)) x h1
      · have hjl' : j < l.length := by omega
        have e : (addN seen l (nb (l.getD i 0))).getD j 0 = l.getD j 0 := by
          obtain ⟨t, ht⟩ := addN_pre (seen := seen) (nb (l.getD i 0)) l
          rw [← ht, List.getD_eq_getElem?_getD, List.getElem?_append_left hjl', List.getD_eq_getElem?_getD]
        rw [e] at hy
        by_cases d : y ∈ seen
        · exact .inl d
        · right
          rw [mem_addN]
          rcases Nat.lt_or_ge j i with c1 | c1
          · exact .inl ((hc j c1 hjl' y hy).resolve_left d)
          · obtain rfl : j = i := by omega
            exact .inr ⟨hy, d⟩
    · rw [if_neg c] at hx ⊢
      obtain ⟨j, hj, rfl⟩ := List.getElem_of_mem hx
      refine hc j (by omega) hj y ?_
      rwa [List.getD_eq_getElem?_getD, List.getElem?_eq_getElem hj]
/- a member that a walk finds, with no one seen: just those that hang together with the first -/
theorem grow_conn {m : List Nat} (hm : ∀ x ∈ m, ∀ y ∈ nb x, y ∈ m) {c : Nat} (hc : c ∈ m) (hs : ∀ x y, y ∈ nb x → x ∈ nb y) (hseen : ∀ x ∈ seen, ∀ y ∈ nb x, y ∈ seen) (hcs : c ∉ seen) {k : Nat} (hk : m.length + 1 ≤ k) {x : Nat} :
    x ∈ grow nb seen k 0 [c] ↔ Conn nb c x := by
  constructor
  · intro h
    refine grow_all (P := Conn nb c) (fun x hx y hy _ => .step hx hy) k 0 (l := [c]) (fun x hx => ?_) x h
    rw [List.mem_singleton] at hx; subst hx; exact .refl _
  · intro h
    have hcl := grow_closed (seen := seen) hm k 0 (l := [c]) (by simp) (fun x hx => by rw [List.mem_singleton] at hx; subst hx; exact hc) (fun j hj => by omega) (by omega)
    have hns : ∀ x ∈ grow nb seen k 0 [c], x ∉ seen := grow_all (P := fun x => x ∉ seen) (fun _ _ _ _ h => h) k 0 (l := [c]) (fun x hx => by rw [List.mem_singleton] at hx; subst hx; exact hcs)
    induction h with
    | refl => exact (grow_pre k 0 [c]).subset (by simp)
    | step hd he ih =>
      rcases hcl _ ih _ he with h1 | h1
      · exact absurd (hseen _ h1 _ (hs _ _ he)) (hns _ ih)
      · exact h1
end

/- numbers in order -/
def ins (x : Nat) : List Nat → List Nat
  | [] => [x]
  | y :: ys => if x ≤ y then x :: y :: ys else y :: ins x ys
def isort : List Nat → List Nat
  | [] => []
  | x :: xs => ins x (isort xs)
theorem ins_perm (x : Nat) : ∀ l, (ins x l).Perm (x :: l)
  | [] => .refl _
  | y :: ys => by
    rw [ins]; split
    · exact .refl _
    · exact ((ins_perm x ys).cons y).trans (.swap _ _ _)
theorem isort_perm : ∀ l, (isort l).Perm l
  | [] => .refl _
  | x :: xs => by rw [isort]; exact (ins_perm x _).trans ((isort_perm xs).cons x)
theorem ins_sorted (x : Nat) : ∀ {l : List Nat}, l.Pairwise (· ≤ ·) → (ins x l).Pairwise (· ≤ ·)
  | [], _ => by rw [ins]; simp
  | y :: ys, h => by
    rw [List.pairwise_cons] at h
    rw [ins]; split
    · next c =>
      rw [List.pairwise_cons, List.pairwise_cons]
      refine ⟨fun z hz => ?_, h⟩
      rcases List.mem_cons.1 hz with rfl | hz
      · exact c
      · exact Nat.le_trans c (h.1 z hz)
    · next c =>
      rw [List.pairwise_cons]
      refine ⟨fun z hz => ?_, ins_sorted x h.2⟩
      rcases List.mem_cons.1 ((ins_perm x ys).mem_iff.1 hz) with rfl | hz
      · omega
      · exact h.1 z hz
theorem isort_sorted : ∀ l, (isort l).Pairwise (· ≤ ·)
  | [] => by rw [isort]; simp
  | x :: xs => by rw [isort]; exact ins_sorted x (isort_sorted xs)
/- pieces -/
def nbs (X : List Cr) (c : Nat) : List Nat := [(other X (c, 0)).1, (other X (c, 1)).1, (other X (c, 2)).1, (other X (c, 3)).1]
def pieceOf (X : List Cr) (seen : List Nat) (c : Nat) : List Nat := grow (nbs X) seen (X.length + 1) 0 [c]
def piecesFrom (X : List Cr) : List Nat → List Nat → List (List Nat)
  | _, [] => []
  | seen, c :: cs => if c ∈ seen then piecesFrom X seen cs else isort (pieceOf X seen c) :: piecesFrom X (seen ++ pieceOf X seen c) cs
def piecesL (X : List Cr) : List (List Nat) := piecesFrom X [] (List.range X.length)
theorem piecesFrom_nil (X : List Cr) (seen : List Nat) : piecesFrom X seen [] = [] := by rw [piecesFrom]
theorem piecesFrom_seen {X : List Cr} {seen cs : List Nat} {c : Nat} (h : c ∈ seen) : piecesFrom X seen (c :: cs) = piecesFrom X seen cs := by rw [piecesFrom, if_pos h]
theorem piecesFrom_new {X : List Cr} {seen cs : List Nat} {c : Nat} (h : c ∉ seen) : piecesFrom X seen (c :: cs) = isort (pieceOf X seen c) :: piecesFrom X (seen ++ pieceOf X seen c) cs := by rw [piecesFrom, if_neg h]

section
variable {X : List Cr}
theorem mem_nbs {c e : Nat} : e ∈ nbs X c ↔ ∃ s, s < 4 ∧ e = (other X (c, s)).1 := by
  unfold nbs
  simp only [List.mem_cons, List.not_mem_nil, or_false]
  constructor
  · rintro (h | h | h | h)
    · exact ⟨0, by omega, h⟩
    · exact ⟨1, by omega, h⟩
    · exact ⟨2, by omega, h⟩
    · exact ⟨3, by omega, h⟩
  · rintro ⟨s, hs, h⟩
    match s, hs with
    | 0, _ => exact .inl h
    | 1, _ => exact .inr (.inl h)
    | 2, _ => exact .inr (.inr (.inl h))
    | 3, _ => exact .inr (.inr (.inr h))
theorem Ok.nbs_lt (h : Ok X) {c e : Nat} (hc : c < X.length) (he : e ∈ nbs X c) : e < X.length := by
  obtain ⟨s, hs, rfl⟩ := mem_nbs.1 he
  exact (h.isPl_other ⟨hc, hs⟩).1
/- within the diagram one hangs with the other just if the other with the one -/
theorem Ok.nbs_symm (h : Ok X) {c e : Nat} (hc : c < X.length) (he : e ∈ nbs X c) : c ∈ nbs X e := by
  obtain ⟨s, hs, rfl⟩ := mem_nbs.1 he
  have hp : isPl X (c, s) := ⟨hc, hs⟩
  refine mem_nbs.2 ⟨(other X (c, s)).2, (h.isPl_other hp).2, ?_⟩
  have := h.other_other hp
  rw [show ((other X (c, s)).1, (other X (c, s)).2) = other X (c, s) from rfl, this]
/- neighbours, of crossings alone -/
def nbc (X : List Cr) (c : Nat) : List Nat := if c < X.length then nbs X c else []
theorem Ok.nbc_symm (h : Ok X) : ∀ x y, y ∈ nbc X x → x ∈ nbc X y := by
  intro x y hy
  unfold nbc at hy ⊢
  by_cases c : x < X.length
  · rw [if_pos c] at hy
    rw [if_pos (h.nbs_lt c hy)]
    exact h.nbs_symm c hy
  · rw [if_neg c] at hy; cases hy
theorem grow_nbc (h : Ok X) {seen : List Nat} : ∀ (k i : Nat) {l : List Nat}, (∀ x ∈ l, x < X.length) → grow (nbs X) seen k i l = grow (nbc X) seen k i l
  | 0, _, l, _ => by rw [grow, grow]
  | k + 1, i, l, hl => by
    rw [grow, grow]
    by_cases c : i < l.length
    · have hx : l.getD i 0 < X.length := hl _ (getD_mem c)
      have e : nbc X (l.getD i 0) = nbs X (l.getD i 0) := by unfold nbc; rw [if_pos hx]
      rw [if_pos c, if_pos c, e]
      refine grow_nbc h k _ fun x hx' => ?_
      rcases mem_addN.1 hx' with h1 | ⟨h1, _⟩
      · exact hl x h1
      · exact h.nbs_lt hx h1
    · rw [if_neg c, if_neg c]
abbrev Con (X : List Cr) : Nat → Nat → Prop := Conn (nbc X)
theorem Ok.con_lt (h : Ok X) {c d : Nat} (hc : c < X.length) (k : Con X c d) : d < X.length := by
  induction k with
  | refl => exact hc
  | step hd he ih =>
    unfold nbc at he
    rw [if_pos ih] at he
    exact h.nbs_lt ih he
theorem Ok.mem_piece (h : Ok X) {seen : List Nat} {c : Nat} (hc : c < X.length) (hseen : ∀ x ∈ seen, ∀ y ∈ nbc X x, y ∈ seen) (hcs : c ∉ seen) {x : Nat} : x ∈ pieceOf X seen c ↔ Con X c x := by
  unfold pieceOf
  rw [grow_nbc h _ _ (by intro x hx; rw [List.mem_singleton] at hx; subst hx; exact hc)]
  refine grow_conn (m := List.range X.length) (fun x hx y hy => ?_) (List.mem_range.2 hc) h.nbc_symm hseen hcs (by simp)
  rw [List.mem_range] at hx ⊢
  unfold nbc at hy
  rw [if_pos hx] at hy
  exact h.nbs_lt hx hy
theorem pieceOf_nodup (X : List Cr) (seen : List Nat) (c : Nat) : (pieceOf X seen c).Nodup := grow_nodup _ _ (by simp)
/- the pieces: each sorted and all that hangs together with any of it; together each crossing once -/
structure IsPiece (X : List Cr) (l : List Nat) : Prop where
  ne : l ≠ []
  nodup : l.Nodup
  con : ∀ c ∈ l, c < X.length ∧ ∀ x, x ∈ l ↔ Con X c x
theorem Ok.piece (h : Ok X) {seen : List Nat} {c : Nat} (hc : c < X.length) (hseen : ∀ x ∈ seen, ∀ y ∈ nbc X x, y ∈ seen) (hcs : c ∉ seen) : IsPiece X (pieceOf X seen c) := by
  have hm := fun x => h.mem_piece hc hseen hcs (x := x)
  refine ⟨List.ne_nil_of_mem ((hm c).2 (.refl _)), pieceOf_nodup X seen c, fun d hd => ?_⟩
  have hcd := (hm d).1 hd
  refine ⟨h.con_lt hc hcd, fun x => ?_⟩
  rw [hm]
  exact ⟨fun k => (hcd.symm h.nbc_symm).trans k, fun k => hcd.trans k⟩
theorem IsPiece.perm {l l' : List Nat} (h : IsPiece X l) (hp : l'.Perm l) : IsPiece X l' :=
  ⟨fun e => h.ne (by subst e; exact hp.symm.eq_nil), hp.nodup_iff.2 h.nodup, fun c hc => ⟨(h.con c (hp.mem_iff.1 hc)).1, fun x => hp.mem_iff.trans ((h.con c (hp.mem_iff.1 hc)).2 x)⟩⟩
theorem Ok.pieces (h : Ok X) : ∀ (cs : List Nat) {seen : List Nat}, (∀ c ∈ cs, c < X.length) → (∀ x ∈ seen, ∀ y ∈ nbc X x, y ∈ seen) → seen.Nodup →
    (∀ l ∈ piecesFrom X seen cs, IsPiece X l) ∧ (seen ++ (piecesFrom X seen cs).flatten).Nodup ∧ (∀ x, x ∈ seen ∨ x ∈ cs → x ∈ seen ++ (piecesFrom X seen cs).flatten) ∧ ∀ x, x ∈ (piecesFrom X seen cs).flatten → x < X.length
  | [], seen, _, _, hn => by
    rw [piecesFrom_nil]
    simpa using hn
  | c :: cs, seen, hc, hs, hn => by
    by_cases d : c ∈ seen
    · rw [piecesFrom_seen d]
      obtain ⟨h1, h2, h3, h4⟩ := h.pieces cs (fun x hx => hc x (by simp [hx])) hs hn
      refine ⟨h1, h2, fun x hx => h3 x ?_, h4⟩
      rcases hx with hx | hx
      · exact .inl hx
      · rcases List.mem_cons.1 hx with rfl | hx
        · exact .inl d
        · exact .inr hx
    · have hcl : c < X.length := hc c (by simp)
      have hp := h.piece hcl hs d
      have hm := fun x => h.mem_piece hcl hs d (x := x)
      have hdis : ∀ x ∈ pieceOf X seen c, x ∉ seen := fun x hx hxs => by
        have : ∀ y, Con X x y → y ∈ seen := fun y hy => by
          induction hy with
          | refl => exact hxs
          | step _ he ih => exact hs _ ih _ he
        exact d (this c (((hm x).1 hx).symm h.nbc_symm))
      have hn' : (seen ++ pieceOf X seen c).Nodup := by
        rw [List.nodup_append]
        exact ⟨hn, hp.nodup, fun a ha b hb e => hdis b hb (e ▸ ha)⟩
      have hs' : ∀ x ∈ seen ++ pieceOf X seen c, ∀ y ∈ nbc X x, y ∈ seen ++ pieceOf X seen c := fun x hx y hy => by
        rw [List.mem_append] at hx ⊢
        rcases hx with hx | hx
        · exact .inl (hs x hx y hy)
        · exact .inr ((hm y).2 (.step ((hm x).1 hx) hy))
      obtain ⟨h1, h2, h3, h4⟩ := h.pieces cs (fun x hx => hc x (by simp [hx])) hs' hn'
      rw [piecesFrom_new d]
      have hperm : (seen ++ (isort (pieceOf X seen c) :: piecesFrom X (seen ++ pieceOf X seen c) cs).flatten).Perm (seen ++ pieceOf X seen c ++ (piecesFrom X (seen ++ pieceOf X seen c) cs).flatten) := by
        rw [List.flatten_cons, List.append_assoc]
        exact List.Perm.append_left _ (List.Perm.append_right _ (isort_perm _))
      refine ⟨fun l hl => ?_, hperm.nodup_iff.2 h2, fun x hx => hperm.mem_iff.2 (h3 x ?_), fun x hx => ?_⟩
      · rcases List.mem_cons.1 hl with rfl | hl
        · exact hp.perm (isort_perm _)
        · exact h1 l hl
      · rcases hx with hx | hx
        · exact .inl (by simp [hx])
        · rcases List.mem_cons.1 hx with rfl | hx
          · exact .inl (List.mem_append.2 (.inr ((hm _).2 (.refl _))))
          · exact .inr hx
      · rw [List.flatten_cons, List.mem_append] at hx
        rcases hx with hx | hx
        · exact (hp.con x ((isort_perm _).mem_iff.1 hx)).1
        · exact h4 x hx
theorem Ok.pieces_perm (h : Ok X) : (piecesL X).flatten.Perm (List.range X.length) := by
  obtain ⟨_, h2, h3, h4⟩ := h.pieces (List.range X.length) (seen := []) (fun c hc => List.mem_range.1 hc) (fun x hx => by cases hx) (by simp)
  rw [List.nil_append] at h2
  refine (List.perm_ext_iff_of_nodup h2 List.nodup_range).2 fun x => ⟨fun hx => List.mem_range.2 (h4 x hx), fun hx => ?_⟩
  have := h3 x (.inr hx)
  rwa [List.nil_append] at this
theorem Ok.pieces_is (h : Ok X) : ∀ l ∈ piecesL X, IsPiece X l :=
  (h.pieces (List.range X.length) (seen := []) (fun c hc => List.mem_range.1 hc) (fun x hx => by cases hx) (by simp)).1
end

/- two more faces than crossings in each piece -/
def pieceAt (X : List Cr) (c : Nat) : Nat := (piecesL X).findIdx fun l => l.contains c
def facesAt (X : List Cr) (i : Nat) : Nat := (facesL X).countP fun f => decide (pieceAt X (head X (f.headD (0, false))).1 = i)
def planarB (X : List Cr) : Bool := (List.range (piecesL X).length).all fun i => decide (facesAt X i = ((piecesL X).getD i []).length + 2)
end Go.Proofs.Ytcfpdeeipbekfaa.Kn

/- A piece as seen from a crossing; the canonical form: plain mathematics. -/
namespace Go.Proofs.Ytcfpdeeipbekfaa.Kn

abbrev Vw := List Nat × List Int
def plusI (x : Cr) : Int := if x.p then 1 else 0
def seePl (X : List Cr) (st : Vw) (p : Pl) : Vw :=
  (if (other X p).1 ∈ st.1 then st.1 else st.1 ++ [(other X p).1], st.2 ++ [((st.1.idxOf (other X p).1 : Nat) : Int), (((other X p).2 : Nat) : Int)])
def seeSides (X : List Cr) (c : Nat) : Nat → Vw → Vw
  | 0, st => st
  | k + 1, st => seePl X (seeSides X c k st) (c, k)
def seeC (X : List Cr) (st : Vw) (c : Nat) : Vw := seeSides X c 4 (st.1, st.2 ++ [plusI (cr X c)])
def seeG (X : List Cr) : Nat → Nat → Vw → Vw
  | 0, _, st => st
  | k + 1, i, st => if i < st.1.length then seeG X k (i + 1) (seeC X st (st.1.getD i 0)) else st
def see (X : List Cr) (c : Nat) : Vw := seeG X (X.length + 1) 0 ([c], [])

/- lists compared as slices.Compare does -/
def cmpI (a b : Int) : Int := if a < b then -1 else if b < a then 1 else 0
def cmpL : List Int → List Int → Int
  | [], [] => 0
  | [], _ :: _ => -1
  | _ :: _, [] => 1
  | x :: xs, y :: ys => if cmpI x y = 0 then cmpL xs ys else cmpI x y
theorem cmpI_zero {a b : Int} : cmpI a b = 0 ↔ a = b := by unfold cmpI; split <;> (try split) <;> omega
theorem cmpI_anti (a b : Int) : cmpI b a = -cmpI a b := by unfold cmpI; split <;> split <;> (try split) <;> omega
theorem cmpL_anti : ∀ l m : List Int, cmpL m l = -cmpL l m
  | [], [] => rfl
  | [], _ :: _ => rfl
  | _ :: _, [] => rfl
  | x :: xs, y :: ys => by
    rw [cmpL, cmpL, cmpI_anti x y]
    by_cases c : cmpI x y = 0
    · rw [if_pos (by omega), if_pos c, cmpL_anti xs ys]
    · rw [if_neg (by omega), if_neg c]
theorem cmpL_zero : ∀ {l m : List Int}, cmpL l m = 0 ↔ l = m
  | [], [] => by simp [cmpL]
  | [], _ :: _ => by simp [cmpL]
  | _ :: _, [] => by simp [cmpL]
  | x :: xs, y :: ys => by
    rw [cmpL, List.cons.injEq]
    by_cases c : cmpI x y = 0
    · rw [if_pos c, cmpL_zero, ← cmpI_zero]; simp [c]
    · rw [if_neg c, ← cmpI_zero (a := x)]; simp [c]
def Cr.ren (x : Cr) (f : Nat → Nat) : Cr := ⟨f x.a.toNat, f x.b.toNat, f x.c.toNat, f x.d.toNat, x.p⟩
end Go.Proofs.Ytcfpdeeipbekfaa.Kn

/- The code of a view; views with the same codes have the same numbers: plain mathematics. -/
namespace Go.Proofs.Ytcfpdeeipbekfaa.Kn

/- what a crossing adds to the code, by places in a list -/
def chunk (X : List Cr) (l : List Nat) (c : Nat) : List Int :=
  [plusI (cr X c), (l.idxOf (other X (c, 0)).1 : Nat), ((other X (c, 0)).2 : Nat), (l.idxOf (other X (c, 1)).1 : Nat), ((other X (c, 1)).2 : Nat),
   (l.idxOf (other X (c, 2)).1 : Nat), ((other X (c, 2)).2 : Nat), (l.idxOf (other X (c, 3)).1 : Nat), ((other X (c, 3)).2 : Nat)]
theorem addN_one (l ks : List Nat) (k : Nat) : addN [] l (k :: ks) = addN [] (if k ∈ l then l else l ++ [k]) ks := by
  rw [addN]
  by_cases c : k ∈ l
  · rw [if_pos (.inr c), if_pos c]
  · rw [if_neg (by simpa using c), if_neg c]
theorem seeC_fst (X : List Cr) (st : Vw) (c : Nat) : (seeC X st c).1 = addN [] st.1 (nbs X c) := by
  unfold nbs
  rw [addN_one, addN_one, addN_one, addN_one, addN]
  rfl
theorem seeG_fst (X : List Cr) : ∀ (k i : Nat) (st : Vw), (seeG X k i st).1 = grow (nbs X) [] k i st.1
  | 0, _, _ => by rw [seeG, grow]
  | k + 1, i, st => by
    rw [seeG, grow]
    split
    · rw [seeG_fst, seeC_fst]
    · rfl
theorem see_fst (X : List Cr) (c : Nat) : (see X c).1 = pieceOf X [] c := by unfold see pieceOf; rw [seeG_fst]
theorem chunk_len (X : List Cr) (l : List Nat) (c : Nat) : (chunk X l c).length = 9 := rfl
section
variable {X : List Cr}
theorem Ok.mem_see (h : Ok X) {c x : Nat} (hc : c < X.length) : x ∈ (see X c).1 ↔ Con X c x := by
  rw [see_fst]
  exact h.mem_piece hc (fun x hx => by cases hx) (by simp)
theorem IsPiece.le {l : List Nat} (h : IsPiece X l) : l.length ≤ X.length := by
  have := nodup_le h.nodup (m := List.range X.length) (fun x hx => List.mem_range.2 (h.con x hx).1)
  simpa using this
theorem flatMap_len {l : List Nat} {f : Nat → List Int} (hf : ∀ c, (f c).length = 9) : (l.flatMap f).length = 9 * l.length := by
  induction l with
  | nil => rfl
  | cons x xs ih => rw [List.flatMap_cons, List.length_append, ih, hf, List.length_cons]; omega
end
/- two lists of crossings, in step: what stands at one place looks alike -/
structure Step (X Y : List Cr) (Z : List (Nat × Nat)) (d e : Nat) : Prop where
  plus : (cr X d).p = (cr Y e).p
  side : ∀ s, s < 4 → (other X (d, s)).2 = (other Y (e, s)).2
  next : ∀ s, s < 4 → ((other X (d, s)).1, (other Y (e, s)).1) ∈ Z
/- first meetings of two lists of one pattern -/
structure Pat (W : List (Nat × Nat)) : Prop where
  iff : ∀ p ∈ W, ∀ q ∈ W, p.1 = q.1 ↔ p.2 = q.2
end Go.Proofs.Ytcfpdeeipbekfaa.Kn

/- Diagrams that are one but for the numbers have one canonical form: plain mathematics. -/
namespace Go.Proofs.Ytcfpdeeipbekfaa.Kn

theorem perm_of_sub {l m : List Nat} (hl : l.Nodup) (hm : m.Nodup) (hs : ∀ x ∈ l, x ∈ m) (hlen : m.length ≤ l.length) : l.Perm m := by
  refine (List.perm_ext_iff_of_nodup hl hm).2 fun x => ⟨hs x, fun hx => ?_⟩
  refine Classical.byContradiction fun c => ?_
  have := fuel hl hs c hx
  omega
theorem map_nodup {l : List Nat} {f : Nat → Nat} (hl : l.Nodup) (hinj : ∀ x ∈ l, ∀ y ∈ l, f x = f y → x = y) : (l.map f).Nodup := by
  rw [List.Nodup, List.pairwise_map]
  refine List.Pairwise.imp_of_mem (fun hx hy hne e => ?_) hl
  exact hne (hinj _ hx _ hy e)
theorem inj_perm {l : List Nat} (hl : l.Nodup) {f : Nat → Nat} (hf : ∀ x ∈ l, f x ∈ l) (hinj : ∀ x ∈ l, ∀ y ∈ l, f x = f y → x = y) : (l.map f).Perm l :=
  perm_of_sub (map_nodup hl hinj) hl (fun x hx => by obtain ⟨y, hy, rfl⟩ := List.mem_map.1 hx; exact hf y hy) (by simp)

structure Iso (X Y : List Cr) (f t : Nat → Nat) : Prop where
  len : Y.length = X.length
  lt : ∀ i, i < X.length → f i < X.length
  inj : ∀ i j, i < X.length → j < X.length → f i = f j → i = j
  cr_ : ∀ i, i < X.length → cr Y i = (cr X (f i)).ren t
  tlt : ∀ a, isArc X a → isArc X (t a)
  tinj : ∀ a b, isArc X a → isArc X b → t a = t b → a = b
theorem ren_arc (x : Cr) (t : Nat → Nat) (s : Nat) : (x.ren t).arc s = (t (x.arc s).toNat : Nat) := by
  unfold Cr.ren Cr.arc
  split
  · rfl
  split
  · rfl
  split <;> rfl
theorem ok_mk {X : List Cr} (h1 : ∀ p, isPl X p → 1 ≤ at_ X p ∧ at_ X p ≤ (nArcs X : Int)) (h2 : ∀ (io : Bool) (a : Nat), isArc X a → ∃ p, isPl X p ∧ cm X p = io ∧ at_ X p = a)
    (h3 : ∀ p q, isPl X p → isPl X q → cm X p = cm X q → at_ X p = at_ X q → p = q) : Ok X := by
  refine ⟨h1, fun io a ha hb => ?_, h3⟩
  obtain ⟨p, hp, e1, e2⟩ := h2 io a ⟨ha, hb⟩
  have hp' : 1 ≤ cnt X io (4 * X.length) a := cnt_pos (pk_lt hp) (by rw [pl_pk hp.2]; exact e1) (by rw [pl_pk hp.2]; exact e2)
  obtain ⟨j, hj, e, e3, e4⟩ := last_of hp'
  unfold endP
  rw [e]
  exact ⟨isPl_pl hj, e3, e4⟩

section
variable {X Y : List Cr} {f t : Nat → Nat}
theorem Iso.arcs_eq (h : Iso X Y f t) : nArcs Y = nArcs X := by unfold nArcs; rw [h.len]
theorem Iso.surj (h : Iso X Y f t) {c : Nat} (hc : c < X.length) : ∃ i, i < X.length ∧ f i = c := by
  have := inj_perm (l := List.range X.length) List.nodup_range (f := f) (fun x hx => List.mem_range.2 (h.lt x (List.mem_range.1 hx))) (fun x hx y hy => h.inj x y (List.mem_range.1 hx) (List.mem_range.1 hy))
  obtain ⟨i, hi, e⟩ := List.mem_map.1 (this.mem_iff.2 (List.mem_range.2 hc))
  exact ⟨i, List.mem_range.1 hi, e⟩
theorem Iso.tsurj (h : Iso X Y f t) {c : Nat} (hc : isArc X c) : ∃ i, isArc X i ∧ t i = c := by
  have := inj_perm (l := arcs X) (arcs_nodup X) (f := t) (fun x hx => mem_arcs.2 (h.tlt x (mem_arcs.1 hx))) (fun x hx y hy => h.tinj x y (mem_arcs.1 hx) (mem_arcs.1 hy))
  obtain ⟨i, hi, e⟩ := List.mem_map.1 (this.mem_iff.2 (mem_arcs.2 hc))
  exact ⟨i, mem_arcs.1 hi, e⟩
def onP (f : Nat → Nat) (p : Pl) : Pl := (f p.1, p.2)
theorem Iso.isArc (h : Iso X Y f t) {a : Nat} : isArc Y a ↔ isArc X a := by unfold Kn.isArc; rw [h.arcs_eq]
theorem Iso.isPl (h : Iso X Y f t) {p : Pl} (hp : isPl Y p) : isPl X (onP f p) := ⟨h.lt _ (by have := hp.1; rwa [h.len] at this), hp.2⟩
theorem Iso.at_ (h : Iso X Y f t) {p : Pl} (hp : Kn.isPl Y p) : at_ Y p = (t (arcN X (onP f p)) : Nat) := by
  unfold Kn.at_ arcN Kn.at_ onP
  rw [h.cr_ _ (by have := hp.1; rwa [h.len] at this), ren_arc]
theorem Iso.cm (h : Iso X Y f t) {p : Pl} (hp : Kn.isPl Y p) : cm Y p = cm X (onP f p) := by
  unfold Kn.cm onP
  rw [h.cr_ _ (by have := hp.1; rwa [h.len] at this)]
  rfl
theorem Iso.onP_inj (h : Iso X Y f t) {p q : Pl} (hp : Kn.isPl Y p) (hq : Kn.isPl Y q) (e : onP f p = onP f q) : p = q := by
  obtain ⟨a, b⟩ := p
  obtain ⟨c, d⟩ := q
  unfold onP at e
  injection e with e1 e2
  simp only at e1 e2
  rw [h.inj a c (by have := hp.1; rwa [h.len] at this) (by have := hq.1; rwa [h.len] at this) e1, e2]
theorem Iso.ok (h : Iso X Y f t) (hX : Ok X) : Ok Y := by
  refine ok_mk (fun p hp => ?_) (fun io a ha => ?_) (fun p q hp hq hc ha => ?_)
  · rw [h.at_ hp, h.arcs_eq]
    have := h.tlt _ (hX.isArc (h.isPl hp))
    unfold Kn.isArc at this; omega
  · obtain ⟨b, hb, rfl⟩ := h.tsurj (h.isArc.1 ha)
    have hq := hX.isPl_end (io := io) hb
    obtain ⟨i, hi, e⟩ := h.surj hq.1
    have hp : Kn.isPl Y (i, (endP X io b).2) := ⟨by rw [h.len]; exact hi, hq.2⟩
    have ep : onP f (i, (endP X io b).2) = endP X io b := by unfold onP; rw [e]
    refine ⟨_, hp, ?_, ?_⟩
    · rw [h.cm hp, ep, hX.cm_end hb]
    · rw [h.at_ hp, ep, hX.arc_end hb]
  · refine h.onP_inj hp hq (hX.uniq _ _ (h.isPl hp) (h.isPl hq) (by rw [← h.cm hp, ← h.cm hq, hc]) ?_)
    rw [h.at_ hp, h.at_ hq, Int.ofNat_inj] at ha
    rw [← hX.arcN_eq (h.isPl hp), ← hX.arcN_eq (h.isPl hq), h.tinj _ _ (hX.isArc (h.isPl hp)) (hX.isArc (h.isPl hq)) ha]
theorem Iso.arcN (h : Iso X Y f t) {p : Pl} (hp : Kn.isPl Y p) : arcN Y p = t (arcN X (onP f p)) := by
  unfold Kn.arcN; rw [h.at_ hp]; rfl
theorem Iso.other (h : Iso X Y f t) (hX : Ok X) {p : Pl} (hp : Kn.isPl Y p) : onP f (other Y p) = other X (onP f p) := by
  have hY := h.ok hX
  have ho := hY.isPl_other hp
  have h1 := h.isPl hp
  have h2 := h.isPl ho
  refine hX.uniq _ _ h2 (hX.isPl_other h1) ?_ ?_
  · rw [← h.cm ho, hY.cm_other hp, hX.cm_other h1, h.cm hp]
  · have e : t (Kn.arcN X (onP f (Kn.other Y p))) = t (Kn.arcN X (onP f p)) := by rw [← h.arcN ho, ← h.arcN hp, hY.arc_other hp]
    have := h.tinj _ _ (hX.isArc h2) (hX.isArc h1) e
    rw [← hX.arcN_eq h2, ← hX.arcN_eq (hX.isPl_other h1), hX.arc_other h1, this]
/- what is seen -/
theorem idxOf_map {l : List Nat} {n a : Nat} (hinj : ∀ i j, i < n → j < n → f i = f j → i = j) (hl : ∀ x ∈ l, x < n) (ha : a < n) : (l.map f).idxOf (f a) = l.idxOf a := by
  induction l with
  | nil => rfl
  | cons x xs ih =>
    rw [List.map_cons, List.idxOf_cons, List.idxOf_cons, ih (fun y hy => hl y (by simp [hy]))]
    by_cases c : x = a
    · subst c; simp
    · have : ¬ f x = f a := fun e => c (hinj x a (hl x (by simp)) ha e)
      have e1 : (x == a) = false := by simpa using c
      have e2 : (f x == f a) = false := by simpa using this
      rw [e1, e2]
theorem mem_map_inj {l : List Nat} {n a : Nat} (hinj : ∀ i j, i < n → j < n → f i = f j → i = j) (hl : ∀ x ∈ l, x < n) (ha : a < n) : f a ∈ l.map f ↔ a ∈ l := by
  rw [List.mem_map]
  exact ⟨fun ⟨x, hx, e⟩ => hinj x a (hl x hx) ha e ▸ hx, fun h => ⟨a, h, rfl⟩⟩
structure Rel (n : Nat) (f : Nat → Nat) (s u : Vw) : Prop where
  fst : u.1 = s.1.map f
  snd : u.2 = s.2
  lt : ∀ x ∈ s.1, x < n
theorem Iso.seePl (h : Iso X Y f t) (hX : Ok X) {s u : Vw} (hr : Rel X.length f s u) {p : Pl} (hp : Kn.isPl Y p) : Rel X.length f (seePl Y s p) (seePl X u (onP f p)) := by
  have ho := h.other hX hp
  have hl : (Kn.other Y p).1 < X.length := by have := ((h.ok hX).isPl_other hp).1; rwa [h.len] at this
  have e1 : (Kn.other X (onP f p)).1 = f (Kn.other Y p).1 := by rw [← ho]; rfl
  have e2 : (Kn.other X (onP f p)).2 = (Kn.other Y p).2 := by rw [← ho]; rfl
  unfold Kn.seePl
  refine ⟨?_, ?_, fun x hx => ?_⟩
  · simp only
    rw [e1, hr.fst]
    by_cases c : (Kn.other Y p).1 ∈ s.1
    · rw [if_pos c, if_pos ((mem_map_inj h.inj hr.lt hl).2 c)]
    · rw [if_neg c, if_neg (fun x => c ((mem_map_inj h.inj hr.lt hl).1 x)), List.map_append]; rfl
  · simp only
    rw [e1, e2, hr.snd, hr.fst, idxOf_map h.inj hr.lt hl]
  · simp only at hx
    split at hx
    · exact hr.lt x hx
    · rcases List.mem_append.1 hx with hx | hx
      · exact hr.lt x hx
      · rw [List.mem_singleton] at hx; subst hx; exact hl
theorem Iso.seeC (h : Iso X Y f t) (hX : Ok X) {s u : Vw} (hr : Rel X.length f s u) {i : Nat} (hi : i < X.length) : Rel X.length f (seeC Y s i) (seeC X u (f i)) := by
  have hp : ∀ k, k < 4 → Kn.isPl Y (i, k) := fun k hk => ⟨by rw [h.len]; exact hi, hk⟩
  have h0 : Rel X.length f (s.1, s.2 ++ [plusI (cr Y i)]) (u.1, u.2 ++ [plusI (cr X (f i))]) := by
    refine ⟨hr.fst, ?_, hr.lt⟩
    simp only
    rw [hr.snd, h.cr_ i hi]; rfl
  exact h.seePl hX (h.seePl hX (h.seePl hX (h.seePl hX h0 (hp 0 (by omega))) (hp 1 (by omega))) (hp 2 (by omega))) (hp 3 (by omega))
theorem Iso.seeG (h : Iso X Y f t) (hX : Ok X) : ∀ (k i : Nat) {s u : Vw}, Rel X.length f s u → Rel X.length f (seeG Y k i s) (seeG X k i u)
  | 0, _, s, u, hr => by rw [Kn.seeG, Kn.seeG]; exact hr
  | k + 1, i, s, u, hr => by
    rw [Kn.seeG, Kn.seeG]
    have hl : u.1.length = s.1.length := by rw [hr.fst]; simp
    by_cases c : i < s.1.length
    · rw [if_pos c, if_pos (by omega)]
      refine h.seeG hX k (i + 1) ?_
      have e : u.1.getD i 0 = f (s.1.getD i 0) := by
        rw [List.getD_eq_getElem?_getD, List.getD_eq_getElem?_getD, hr.fst, List.getElem?_map, List.getElem?_eq_getElem c]; rfl
      rw [e]
      exact h.seeC hX hr (hr.lt _ (getD_mem c))
    · rw [if_neg c, if_neg (by omega)]; exact hr
theorem Iso.see (h : Iso X Y f t) (hX : Ok X) {i : Nat} (hi : i < X.length) : Rel X.length f (see Y i) (see X (f i)) := by
  unfold Kn.see
  rw [h.len]
  exact h.seeG hX _ _ ⟨rfl, rfl, fun x hx => by rw [List.mem_singleton] at hx; subst hx; exact hi⟩
theorem Iso.con (h : Iso X Y f t) (hX : Ok X) {i j : Nat} (hi : i < X.length) (hj : j < X.length) : Con Y i j ↔ Con X (f i) (f j) := by
  have hr := h.see hX hi
  rw [← (h.ok hX).mem_see (by rw [h.len]; exact hi), ← hX.mem_see (h.lt i hi), hr.fst, mem_map_inj h.inj hr.lt hj]
end

/- the best code of a piece -/
def IsBest (X : List Cr) (c : Nat) (k : List Int) : Prop := (∃ d, Con X c d ∧ (see X d).2 = k) ∧ ∀ d, Con X c d → cmpL k (see X d).2 ≤ 0
theorem IsBest.uniq {X : List Cr} {c : Nat} {k k' : List Int} (h : IsBest X c k) (h' : IsBest X c k') : k = k' := by
  obtain ⟨d, hd, rfl⟩ := h.1
  obtain ⟨d', hd', rfl⟩ := h'.1
  have h1 := h.2 d' hd'
  have h2 := h'.2 d hd
  have h3 := cmpL_anti (see X d).2 (see X d').2
  exact cmpL_zero.1 (by omega)
/- views of a diagram -/
structure IsVw (X : List Cr) (v : Vw) : Prop where
  piece : IsPiece X v.1
  code : v.2 = v.1.flatMap (chunk X v.1)
theorem IsVw.len {X : List Cr} {v : Vw} (h : IsVw X v) : v.2.length = 9 * v.1.length := by rw [h.code, flatMap_len (chunk_len X _)]
/- two lists of crossings in step have the same numbers -/
theorem Step.mono {X Y : List Cr} {Z Z' : List (Nat × Nat)} {d e : Nat} (h : Step X Y Z d e) (hs : ∀ p ∈ Z, p ∈ Z') : Step X Y Z' d e := ⟨h.plus, h.side, fun s h4 => hs _ (h.next s h4)⟩
theorem zip_swap {l m : List Nat} {d e : Nat} (h : (d, e) ∈ l.zip m) : (e, d) ∈ m.zip l := by
  obtain ⟨i, hi, e1⟩ := List.getElem_of_mem h
  rw [List.length_zip] at hi
  rw [List.getElem_zip, Prod.mk.injEq] at e1
  have h3 : i < (m.zip l).length := by rw [List.length_zip]; omega
  have : (m.zip l)[i] = (e, d) := by rw [List.getElem_zip, e1.1, e1.2]
  exact this ▸ List.getElem_mem h3
theorem Step.swap {X Y : List Cr} {l m : List Nat} {d e : Nat} (h : Step X Y (l.zip m) d e) : Step Y X (m.zip l) e d := ⟨h.plus.symm, fun s hs => (h.side s hs).symm, fun s hs => zip_swap (h.next s hs)⟩
end Go.Proofs.Ytcfpdeeipbekfaa.Kn

/- Classes of a relation on the numbers below N, counted by their least members; two of them made one; what turns two of a permutation's values does to its orbits: plain mathematics. -/
namespace Go.Proofs.Ytcfpdeeipbekfaa.Kn

/- a relation's truth as a Bool -/
noncomputable def tr (p : Prop) : Bool := @decide p (Classical.propDecidable p)
theorem tr_iff {p : Prop} : tr p = true ↔ p := @decide_eq_true_iff p (Classical.propDecidable p)
theorem tr_false {p : Prop} : tr p = false ↔ ¬ p := by
  constructor
  · intro h k; rw [tr_iff.2 k] at h; cases h
  · intro h; cases c : tr p with
    | false => rfl
    | true => exact absurd (tr_iff.1 c) h
def Least (R : Nat → Nat → Prop) (d : Nat) : Prop := ∀ e, e < d → ¬ R e d
noncomputable def cl (N : Nat) (R : Nat → Nat → Prop) : Nat := (List.range N).countP fun d => tr (Least R d)
theorem cl_congr {N : Nat} {R R' : Nat → Nat → Prop} (h : ∀ x y, R x y ↔ R' x y) : cl N R = cl N R' := by
  have : R = R' := funext fun x => funext fun y => propext (h x y)
  rw [this]
theorem countP_congr' {l : List Nat} {p q : Nat → Bool} (h : ∀ x ∈ l, p x = q x) : l.countP p = l.countP q := by
  induction l with
  | nil => rfl
  | cons a l ih =>
    rw [List.countP_cons, List.countP_cons, ih fun x hx => h x (by simp [hx]), h a (by simp)]
theorem countP_but : ∀ {l : List Nat}, l.Nodup → ∀ {p q : Nat → Bool} {x : Nat}, x ∈ l → p x = true → (∀ d ∈ l, q d = (p d && decide (d ≠ x))) → l.countP q + 1 = l.countP p
  | [], _, _, _, _, hx, _, _ => by cases hx
  | a :: l, hn, p, q, x, hx, hp, hq => by
    rw [List.nodup_cons] at hn
    rw [List.countP_cons, List.countP_cons]
    have ha := hq a (by simp)
    by_cases c : a = x
    · subst c
      have h1 : l.countP q = l.countP p := countP_congr' fun d hd => by
        rw [hq d (by simp [hd])]
        have : d ≠ a := fun e => hn.1 (e ▸ hd)
        simp [this]
      rw [h1, ha, hp]; simp
    · have h1 := countP_but hn.2 (p := p) (q := q) (x := x) ((List.mem_cons.1 hx).resolve_left fun e => c e.symm) hp fun d hd => hq d (by simp [hd])
      rw [ha, decide_eq_true c, Bool.and_true]
      omega
/- the least of a class -/
theorem least_of {R : Nat → Nat → Prop} (hR : Equivalence R) (a : Nat) : ∃ r, r ≤ a ∧ R r a ∧ Least R r := by
  induction a using Nat.strongRecOn with
  | ind a ih =>
    by_cases c : ∃ e, e < a ∧ R e a
    · obtain ⟨e, he, hr⟩ := c
      obtain ⟨r, h1, h2, h3⟩ := ih e he
      exact ⟨r, by omega, hR.trans h2 hr, h3⟩
    · exact ⟨a, Nat.le_refl _, hR.refl a, fun e he hr => c ⟨e, he, hr⟩⟩
theorem least_eq {R : Nat → Nat → Prop} (hR : Equivalence R) {r s : Nat} (h : Least R r) (k : Least R s) (e : R r s) : r = s := by
  rcases Nat.lt_trichotomy r s with c | c | c
  · exact absurd e (k r c)
  · exact c
  · exact absurd (hR.symm e) (h s c)
/- the classes of a and b made one -/
def mrg (R : Nat → Nat → Prop) (a b x y : Nat) : Prop := R x y ∨ (R x a ∧ R b y) ∨ (R x b ∧ R a y)
theorem mrg_equiv {R : Nat → Nat → Prop} (hR : Equivalence R) (a b : Nat) : Equivalence (mrg R a b) := by
  refine ⟨fun x => .inl (hR.refl x), fun {x y} h => ?_, fun {x y z} h k => ?_⟩
  · rcases h with h | ⟨h1, h2⟩ | ⟨h1, h2⟩
    · exact .inl (hR.symm h)
    · exact .inr (.inr ⟨hR.symm h2, hR.symm h1⟩)
    · exact .inr (.inl ⟨hR.symm h2, hR.symm h1⟩)
  · rcases h with h | ⟨h1, h2⟩ | ⟨h1, h2⟩ <;> rcases k with k | ⟨k1, k2⟩ | ⟨k1, k2⟩
    · exact .inl (hR.trans h k)
    · exact .inr (.inl ⟨hR.trans h k1, k2⟩)
    · exact .inr (.inr ⟨hR.trans h k1, k2⟩)
    · exact .inr (.inl ⟨h1, hR.trans h2 k⟩)
    · exact .inr (.inl ⟨h1, k2⟩)
    · exact .inl (hR.trans h1 k2)
    · exact .inr (.inr ⟨h1, hR.trans h2 k⟩)
    · exact .inl (hR.trans h1 k2)
    · exact .inr (.inr ⟨h1, k2⟩)
theorem mrg_swap {R : Nat → Nat → Prop} (a b x y : Nat) : mrg R a b x y ↔ mrg R b a x y := by
  unfold mrg
  constructor <;> rintro (h | h | h)
  · exact .inl h
  · exact .inr (.inr h)
  · exact .inr (.inl h)
  · exact .inl h
  · exact .inr (.inr h)
  · exact .inr (.inl h)
theorem mrg_same {R : Nat → Nat → Prop} (hR : Equivalence R) {a b : Nat} (h : R a b) (x y : Nat) : mrg R a b x y ↔ R x y := by
  constructor
  · rintro (k | ⟨k1, k2⟩ | ⟨k1, k2⟩)
    · exact k
    · exact hR.trans k1 (hR.trans h k2)
    · exact hR.trans k1 (hR.trans (hR.symm h) k2)
  · exact .inl
theorem cl_mrg_lt {N : Nat} {R : Nat → Nat → Prop} (hR : Equivalence R) {a b ra rb : Nat} (hb : rb < N) (ha1 : R ra a) (ha2 : Least R ra) (hb1 : R rb b) (hb2 : Least R rb) (hlt : ra < rb) :
    cl N (mrg R a b) + 1 = cl N R := by
  unfold cl
  refine countP_but List.nodup_range (x := rb) (List.mem_range.2 hb) (tr_iff.2 hb2) fun d _ => ?_
  rw [Bool.eq_iff_iff, tr_iff, Bool.and_eq_true, tr_iff, decide_eq_true_eq]
  constructor
  · intro h
    refine ⟨fun e he hr => h e he (.inl hr), ?_⟩
    rintro rfl
    exact h ra hlt (.inr (.inl ⟨ha1, hR.symm hb1⟩))
  · rintro ⟨h, hne⟩ e he hm
    rcases hm with hm | ⟨h1, h2⟩ | ⟨h1, h2⟩
    · exact h e he hm
    · exact hne (least_eq hR h hb2 (hR.trans (hR.symm h2) (hR.symm hb1)))
    · have h3 : d = ra := least_eq hR h ha2 (hR.trans (hR.symm h2) (hR.symm ha1))
      subst h3
      exact hb2 e (by omega) (hR.trans h1 (hR.symm hb1))
theorem cl_mrg {N : Nat} {R : Nat → Nat → Prop} (hR : Equivalence R) {a b : Nat} (ha : a < N) (hb : b < N) (h : ¬ R a b) : cl N (mrg R a b) + 1 = cl N R := by
  obtain ⟨ra, a1, a2, a3⟩ := least_of hR a
  obtain ⟨rb, b1, b2, b3⟩ := least_of hR b
  rcases Nat.lt_trichotomy ra rb with c | c | c
  · exact cl_mrg_lt hR (by omega) a2 a3 b2 b3 c
  · subst c
    exact absurd (hR.trans (hR.symm a2) b2) h
  · rw [cl_congr (mrg_swap a b)]
    exact cl_mrg_lt hR (by omega) b2 b3 a2 a3 c

/- orbits -/
def it {α : Type} (f : α → α) : Nat → α → α
  | 0, x => x
  | n + 1, x => f (it f n x)
theorem it_add {α : Type} (f : α → α) (n : Nat) (x : α) : ∀ m, it f (m + n) x = it f m (it f n x)
  | 0 => by rw [Nat.zero_add]; rfl
  | m + 1 => by rw [Nat.succ_add, it, it, it_add f n x m]
def Orb (f : Nat → Nat) (x y : Nat) : Prop := ∃ n, it f n x = y
structure Pm (N : Nat) (f : Nat → Nat) : Prop where
  lt : ∀ x, x < N → f x < N
  out : ∀ x, N ≤ x → f x = x
  inj : ∀ x y, f x = f y → x = y
section
variable {N : Nat} {f : Nat → Nat}
theorem Pm.it_lt (h : Pm N f) {x : Nat} (hx : x < N) : ∀ n, it f n x < N
  | 0 => hx
  | n + 1 => h.lt _ (h.it_lt hx n)
theorem Pm.it_out (h : Pm N f) {x : Nat} (hx : N ≤ x) : ∀ n, it f n x = x
  | 0 => rfl
  | n + 1 => by rw [it, h.it_out hx n, h.out x hx]
theorem Pm.it_inj (h : Pm N f) {x y : Nat} : ∀ {n : Nat}, it f n x = it f n y → x = y
  | 0, e => e
  | n + 1, e => h.it_inj (h.inj _ _ e)
theorem not_nodup_map {g : Nat → Nat} : ∀ {l : List Nat}, l.Nodup → ¬ (l.map g).Nodup → ∃ i ∈ l, ∃ j ∈ l, i ≠ j ∧ g i = g j
  | [], _, h => absurd (by simp) h
  | a :: l, hn, h => by
    rw [List.nodup_cons] at hn
    by_cases c : g a ∈ l.map g
    · obtain ⟨j, hj, e⟩ := List.mem_map.1 c
      exact ⟨a, by simp, j, by simp [hj], fun e' => hn.1 (e' ▸ hj), e.symm⟩
    · have h2 : ¬ (l.map g).Nodup := fun k => h (by rw [List.map_cons, List.nodup_cons]; exact ⟨c, k⟩)
      obtain ⟨i, hi, j, hj, h3⟩ := not_nodup_map hn.2 h2
      exact ⟨i, by simp [hi], j, by simp [hj], h3⟩
theorem Pm.cycle (h : Pm N f) (x : Nat) : ∃ n, 0 < n ∧ it f n x = x := by
  by_cases hx : x < N
  · have : ¬ ((List.range (N + 1)).map fun n => it f n x).Nodup := fun hn => by
      have := nodup_le hn (m := List.range N) fun y hy => by
        obtain ⟨n, _, rfl⟩ := List.mem_map.1 hy
        exact List.mem_range.2 (h.it_lt hx n)
      simp at this
      omega
    obtain ⟨i, _, j, _, hne, e⟩ := not_nodup_map List.nodup_range this
    have key : ∀ i j, i < j → it f i x = it f j x → ∃ n, 0 < n ∧ it f n x = x := fun i j hij e => by
      refine ⟨j - i, by omega, ?_⟩
      have h1 := it_add f (j - i) x i
      rw [show i + (j - i) = j by omega, ← e] at h1
      exact (h.it_inj h1).symm
    rcases Nat.lt_or_ge i j with c | c
    · exact key i j c e
    · exact key j i (by omega) e.symm
  · exact ⟨1, by omega, h.it_out (by omega) 1⟩
theorem Orb.refl (f : Nat → Nat) (x : Nat) : Orb f x x := ⟨0, rfl⟩
theorem Orb.trans {x y z : Nat} : Orb f x y → Orb f y z → Orb f x z := by
  rintro ⟨m, rfl⟩ ⟨n, rfl⟩
  exact ⟨n + m, it_add f m x n⟩
theorem Orb.one (f : Nat → Nat) (x : Nat) : Orb f x (f x) := ⟨1, rfl⟩
theorem Pm.back (h : Pm N f) (x : Nat) : Orb f (f x) x := by
  obtain ⟨n, hn, e⟩ := h.cycle x
  obtain ⟨m, rfl⟩ : ∃ m, n = m + 1 := ⟨n - 1, by omega⟩
  refine ⟨m, ?_⟩
  have := it_add f 1 x m
  rw [e] at this
  exact this.symm
theorem Pm.symm (h : Pm N f) {x y : Nat} : Orb f x y → Orb f y x := by
  rintro ⟨n, rfl⟩
  induction n with
  | zero => exact Orb.refl f x
  | succ n ih => exact (h.back _).trans ih
theorem Pm.equiv (h : Pm N f) : Equivalence (Orb f) := ⟨Orb.refl f, h.symm, Orb.trans⟩
/- what goes along orbits -/
theorem Orb.ind {P : Nat → Prop} (hP : ∀ x, P x → P (f x)) {x y : Nat} (hx : P x) : Orb f x y → P y := by
  rintro ⟨n, rfl⟩
  induction n with
  | zero => exact hx
  | succ n ih => exact hP _ ih
theorem Orb.lt (h : Pm N f) {x y : Nat} (hx : x < N) (k : Orb f x y) : y < N := k.ind (P := fun y => y < N) h.lt hx
end

/- two values turned -/
def swp (a b x : Nat) : Nat := if x = a then b else if x = b then a else x
theorem swp_a (a b : Nat) : swp a b a = b := if_pos rfl
theorem swp_b (a b : Nat) : swp a b b = a := by
  unfold swp; split
  · next h => exact h
  · exact if_pos rfl
theorem swp_ne {a b x : Nat} (h : x ≠ a) (k : x ≠ b) : swp a b x = x := by unfold swp; rw [if_neg h, if_neg k]
theorem swp_swp (a b x : Nat) : swp a b (swp a b x) = x := by
  by_cases h : x = a
  · subst h; rw [swp_a, swp_b]
  · by_cases k : x = b
    · subst k; rw [swp_b, swp_a]
    · rw [swp_ne h k, swp_ne h k]
theorem Pm.swp {N : Nat} {f : Nat → Nat} (h : Pm N f) {a b : Nat} (ha : a < N) (hb : b < N) : Pm N (fun x => swp a b (f x)) := by
  refine ⟨fun x hx => ?_, fun x hx => ?_, fun x y e => ?_⟩
  · have := h.lt x hx
    show Kn.swp a b (f x) < N
    unfold Kn.swp; split
    · exact hb
    · split
      · exact ha
      · exact this
  · show Kn.swp a b (f x) = x
    rw [h.out x hx, swp_ne (by omega) (by omega)]
  · refine h.inj x y ?_
    have e' : Kn.swp a b (f x) = Kn.swp a b (f y) := e
    rw [← swp_swp a b (f x), e', swp_swp]
section
variable {N : Nat} {f : Nat → Nat} {a b : Nat}
theorem orb_step (h : Pm N f) (x : Nat) : mrg (Orb f) a b x (swp a b (f x)) := by
  by_cases c : f x = a
  · rw [c, swp_a]; exact .inr (.inl ⟨c ▸ Orb.one f x, Orb.refl f b⟩)
  · by_cases d : f x = b
    · rw [d, swp_b]; exact .inr (.inr ⟨d ▸ Orb.one f x, Orb.refl f a⟩)
    · rw [swp_ne c d]; exact .inl (Orb.one f x)
theorem orb_sub (h : Pm N f) {x y : Nat} (k : Orb (fun x => swp a b (f x)) x y) : mrg (Orb f) a b x y :=
  k.ind (P := fun y => mrg (Orb f) a b x y) (fun z hz => (mrg_equiv h.equiv a b).trans hz (orb_step h z)) (.inl (Orb.refl f x))
theorem swp_twice (f : Nat → Nat) (a b : Nat) : (fun x => swp a b ((fun x => swp a b (f x)) x)) = f := funext fun x => swp_swp a b (f x)
/- apart: they come together -/
theorem orb_join (h : Pm N f) (k : ¬ Orb f a b) : Orb (fun x => swp a b (f x)) a b := by
  obtain ⟨n, hn, e⟩ := h.cycle a
  have hex : ∃ n, 0 < n ∧ it f n a = a ∧ ∀ m, 0 < m → m < n → it f m a ≠ a := by
    clear k
    induction n using Nat.strongRecOn with
    | ind n ih =>
      by_cases c : ∃ m, 0 < m ∧ m < n ∧ it f m a = a
      · obtain ⟨m, h1, h2, h3⟩ := c
        exact ih m h2 h1 h3
      · exact ⟨n, hn, e, fun m h1 h2 h3 => c ⟨m, h1, h2, h3⟩⟩
  obtain ⟨n, hn, e, hmin⟩ := hex
  have key : ∀ m, m < n → it (fun x => swp a b (f x)) m a = it f m a := by
    intro m
    induction m with
    | zero => intro _; rfl
    | succ m ih =>
      intro hm
      rw [it, ih (by omega)]
      show swp a b (it f (m + 1) a) = _
      exact swp_ne (hmin _ (by omega) hm) fun e' => k ⟨_, e'⟩
  refine ⟨n, ?_⟩
  obtain ⟨m, rfl⟩ : ∃ m, n = m + 1 := ⟨n - 1, by omega⟩
  rw [it, key m (by omega)]
  show swp a b (it f (m + 1) a) = b
  rw [e, swp_a]
theorem orb_mrg (h : Pm N f) (ha : a < N) (hb : b < N) (k : ¬ Orb f a b) (x y : Nat) : Orb (fun x => swp a b (f x)) x y ↔ mrg (Orb f) a b x y := by
  have h' := h.swp ha hb
  have hab := orb_join h k
  refine ⟨orb_sub h, fun hm => ?_⟩
  have hsub : ∀ x y, Orb f x y → Orb (fun x => swp a b (f x)) x y := fun x y hxy => by
    have h1 : Orb (fun x => swp a b ((fun x => swp a b (f x)) x)) x y := by rw [swp_twice]; exact hxy
    exact (mrg_same h'.equiv hab x y).1 (orb_sub h' h1)
  rcases hm with hm | ⟨h1, h2⟩ | ⟨h1, h2⟩
  · exact hsub x y hm
  · exact (hsub _ _ h1).trans (hab.trans (hsub _ _ h2))
  · exact (hsub _ _ h1).trans ((h'.symm hab).trans (hsub _ _ h2))
/- together: they part -/
theorem orb_part (h : Pm N f) (hne : a ≠ b) (k : Orb f a b) : ¬ Orb (fun x => swp a b (f x)) a b := by
  have hex : ∃ n, it f n a = b ∧ ∀ m, m < n → it f m a ≠ b := by
    obtain ⟨n, e⟩ := k
    induction n using Nat.strongRecOn with
    | ind n ih =>
      by_cases c : ∃ m, m < n ∧ it f m a = b
      · obtain ⟨m, h2, h3⟩ := c
        exact ih m h2 h3
      · exact ⟨n, e, fun m h2 h3 => c ⟨m, h2, h3⟩⟩
  obtain ⟨n, e, hmin⟩ := hex
  have hn : 0 < n := by
    rcases Nat.eq_zero_or_pos n with c | c
    · subst c; exact absurd e hne
    · exact c
  have hback : ∀ m, 0 < m → m < n → it f m a ≠ a := fun m h1 h2 h3 => by
    have h4 := it_add f m a (n - m)
    rw [h3, show n - m + m = n by omega, e] at h4
    exact hmin (n - m) (by omega) h4.symm
  intro ho
  have hin : ∃ m, m < n ∧ b = it f m a := by
    refine ho.ind (P := fun y => ∃ m, m < n ∧ y = it f m a) ?_ ⟨0, hn, rfl⟩
    rintro y ⟨m, hm, rfl⟩
    by_cases c : m + 1 < n
    · refine ⟨m + 1, c, ?_⟩
      show swp a b (it f (m + 1) a) = _
      exact swp_ne (hback _ (by omega) c) (hmin _ c)
    · obtain rfl : n = m + 1 := by omega
      refine ⟨0, hn, ?_⟩
      show swp a b (it f (m + 1) a) = a
      rw [e, swp_b]
  obtain ⟨m, hm, e'⟩ := hin
  exact hmin m hm e'.symm
theorem cl_join (h : Pm N f) (ha : a < N) (hb : b < N) (k : ¬ Orb f a b) : cl N (Orb (fun x => swp a b (f x))) + 1 = cl N (Orb f) := by
  rw [cl_congr (orb_mrg h ha hb k)]
  exact cl_mrg h.equiv ha hb k
theorem cl_part (h : Pm N f) (ha : a < N) (hb : b < N) (hne : a ≠ b) (k : Orb f a b) : cl N (Orb f) + 1 = cl N (Orb (fun x => swp a b (f x))) := by
  have := cl_join (h.swp ha hb) ha hb (orb_part h hne k)
  rwa [swp_twice] at this
end
end Go.Proofs.Ytcfpdeeipbekfaa.Kn

/- A permutation's orbits behind turning values pair by pair: Euler's formula, as an inequality; where it is an equation each even marking of pairs comes of two colours: plain mathematics. -/
namespace Go.Proofs.Ytcfpdeeipbekfaa.Kn

abbrev Prs := List (Nat × Nat)
def mate : Prs → Nat → Nat
  | [], x => x
  | e :: es, x => swp e.1 e.2 (mate es x)
def phi (σ : Nat → Nat) (es : Prs) (x : Nat) : Nat := mate es (σ x)
def com (σ : Nat → Nat) : Prs → Nat → Nat → Prop
  | [] => Orb σ
  | e :: es => mrg (com σ es) e.1 e.2
def Good (N : Nat) (es : Prs) : Prop := ∀ e ∈ es, e.1 < N ∧ e.2 < N ∧ e.1 ≠ e.2
section
variable {N : Nat} {σ : Nat → Nat}
theorem phi_cons (σ : Nat → Nat) (e : Nat × Nat) (es : Prs) : phi σ (e :: es) = fun x => swp e.1 e.2 (phi σ es x) := rfl
theorem Good.tail {e : Nat × Nat} {es : Prs} (h : Good N (e :: es)) : Good N es := fun x hx => h x (by simp [hx])
theorem phi_pm (h : Pm N σ) : ∀ {es : Prs}, Good N es → Pm N (phi σ es)
  | [], _ => h
  | e :: es, hg => by
    obtain ⟨h1, h2, _⟩ := hg e (by simp)
    exact (phi_pm h hg.tail).swp h1 h2
theorem com_equiv (h : Pm N σ) : ∀ es : Prs, Equivalence (com σ es)
  | [] => h.equiv
  | _ :: es => mrg_equiv (com_equiv h es) _ _
theorem com_sub : ∀ {es : Prs} {x y : Nat}, Orb σ x y → com σ es x y
  | [], _, _, h => h
  | _ :: es, _, _, h => .inl (com_sub (es := es) h)
theorem com_pair (h : Pm N σ) : ∀ {es : Prs} {e : Nat × Nat}, e ∈ es → com σ es e.1 e.2
  | [], _, he => by cases he
  | d :: es, e, he => by
    rcases List.mem_cons.1 he with rfl | he
    · exact .inr (.inl ⟨(com_equiv h es).refl _, (com_equiv h es).refl _⟩)
    · exact .inl (com_pair h he)
theorem orb_com (h : Pm N σ) : ∀ {es : Prs}, Good N es → ∀ {x y : Nat}, Orb (phi σ es) x y → com σ es x y
  | [], _, _, _, k => k
  | e :: es, hg, x, y, k => by
    have := orb_sub (phi_pm h hg.tail) k
    rcases this with k | ⟨k1, k2⟩ | ⟨k1, k2⟩
    · exact .inl (orb_com h hg.tail k)
    · exact .inr (.inl ⟨orb_com h hg.tail k1, orb_com h hg.tail k2⟩)
    · exact .inr (.inr ⟨orb_com h hg.tail k1, orb_com h hg.tail k2⟩)
/- what com is the least of -/
theorem com_least {R : Nat → Nat → Prop} (hR : Equivalence R) (hs : ∀ x, R x (σ x)) : ∀ {es : Prs}, (∀ e ∈ es, R e.1 e.2) → ∀ {x y : Nat}, com σ es x y → R x y
  | [], _, x, y, k => k.ind (P := fun y => R x y) (fun z hz => hR.trans hz (hs z)) (hR.refl x)
  | e :: es, he, x, y, k => by
    have h1 := fun {x y} => com_least hR hs (es := es) (fun d hd => he d (by simp [hd])) (x := x) (y := y)
    rcases k with k | ⟨k1, k2⟩ | ⟨k1, k2⟩
    · exact h1 k
    · exact hR.trans (h1 k1) (hR.trans (he e (by simp)) (h1 k2))
    · exact hR.trans (h1 k1) (hR.trans (hR.symm (he e (by simp))) (h1 k2))
theorem euler (h : Pm N σ) : ∀ {es : Prs}, Good N es →
    cl N (Orb (phi σ es)) + cl N (Orb σ) ≤ es.length + 2 * cl N (com σ es) ∧ (cl N (Orb (phi σ es)) + cl N (Orb σ) + es.length) % 2 = 0
  | [], _ => by
    show cl N (Orb σ) + cl N (Orb σ) ≤ 0 + 2 * cl N (Orb σ) ∧ (cl N (Orb σ) + cl N (Orb σ) + 0) % 2 = 0
    omega
  | e :: es, hg => by
    obtain ⟨h1, h2, h3⟩ := hg e (by simp)
    obtain ⟨i1, i2⟩ := euler h hg.tail
    have hp := phi_pm h hg.tail
    rw [phi_cons, List.length_cons]
    show _ ≤ _ + 2 * cl N (mrg (com σ es) e.1 e.2) ∧ _
    by_cases c : com σ es e.1 e.2
    · rw [cl_congr (mrg_same (com_equiv h es) c)]
      by_cases d : Orb (phi σ es) e.1 e.2
      · have := cl_part hp h1 h2 h3 d
        omega
      · have := cl_join hp h1 h2 d
        omega
    · have j1 := cl_mrg (com_equiv h es) h1 h2 c
      have j2 := cl_join hp h1 h2 fun k => c (orb_com h hg.tail k)
      omega

/- pairs apart -/
def Dis (es : Prs) : Prop := es.Pairwise fun e d => e.1 ≠ d.1 ∧ e.1 ≠ d.2 ∧ e.2 ≠ d.1 ∧ e.2 ≠ d.2
def inPrs (es : Prs) (d : Nat) : Prop := ∃ e ∈ es, d = e.1 ∨ d = e.2
structure Mark (es : Prs) (z : Nat → Bool) : Prop where
  sup : ∀ d, z d = true → inPrs es d
  pair : ∀ e ∈ es, z e.1 = z e.2
theorem Dis.out {e : Nat × Nat} {es : Prs} (h : Dis (e :: es)) : ¬ inPrs es e.1 ∧ ¬ inPrs es e.2 := by
  unfold Dis at h
  rw [List.pairwise_cons] at h
  constructor
  · rintro ⟨d, hd, k | k⟩
    · exact (h.1 d hd).1 k
    · exact (h.1 d hd).2.1 k
  · rintro ⟨d, hd, k | k⟩
    · exact (h.1 d hd).2.2.1 k
    · exact (h.1 d hd).2.2.2 k
theorem Dis.tail {e : Nat × Nat} {es : Prs} (h : Dis (e :: es)) : Dis es := (List.pairwise_cons.1 h).2
theorem mate_out : ∀ {es : Prs} {d : Nat}, ¬ inPrs es d → mate es d = d
  | [], _, _ => rfl
  | e :: es, d, h => by
    rw [mate, mate_out (es := es) fun ⟨x, hx, k⟩ => h ⟨x, by simp [hx], k⟩]
    exact swp_ne (fun k => h ⟨e, by simp, .inl k⟩) fun k => h ⟨e, by simp, .inr k⟩
theorem mate_pair : ∀ {es : Prs}, Dis es → ∀ {e : Nat × Nat}, e ∈ es → mate es e.1 = e.2 ∧ mate es e.2 = e.1
  | [], _, _, he => by cases he
  | d :: es, h, e, he => by
    obtain ⟨o1, o2⟩ := h.out
    rcases List.mem_cons.1 he with rfl | he
    · rw [mate, mate, mate_out o1, mate_out o2]
      exact ⟨swp_a _ _, swp_b _ _⟩
    · obtain ⟨i1, i2⟩ := mate_pair h.tail he
      rw [mate, mate, i1, i2]
      refine ⟨swp_ne ?_ ?_, swp_ne ?_ ?_⟩
      · exact fun k => o1 ⟨e, he, .inr k.symm⟩
      · exact fun k => o2 ⟨e, he, .inr k.symm⟩
      · exact fun k => o1 ⟨e, he, .inl k.symm⟩
      · exact fun k => o2 ⟨e, he, .inl k.symm⟩
theorem Mark.tail {e : Nat × Nat} {es : Prs} {z : Nat → Bool} (h : Mark (e :: es) z) (h1 : z e.1 = false) (h2 : z e.2 = false) : Mark es z := by
  refine ⟨fun d k => ?_, fun p hp => h.pair p (by simp [hp])⟩
  obtain ⟨x, hx, y⟩ := h.sup d k
  rcases List.mem_cons.1 hx with rfl | hx
  · rcases y with rfl | rfl
    · rw [h1] at k; cases k
    · rw [h2] at k; cases k
  · exact ⟨x, hx, y⟩
end
end Go.Proofs.Ytcfpdeeipbekfaa.Kn

/- Rings are orbits; classes of a relation, counted by lists of them: plain mathematics. -/
namespace Go.Proofs.Ytcfpdeeipbekfaa.Kn

/- a ring under another name -/
section
variable {α β : Type} {g : α → β} {all : List α}
theorem mem_map_of {l : List α} {x : α} (hinj : ∀ x ∈ all, ∀ y ∈ all, g x = g y → x = y) (hl : ∀ y ∈ l, y ∈ all) (hx : x ∈ all) : g x ∈ l.map g ↔ x ∈ l := by
  rw [List.mem_map]
  constructor
  · rintro ⟨y, hy, e⟩
    rw [← hinj y (hl y hy) x hx e]; exact hy
  · exact fun h => ⟨x, h, rfl⟩
variable [DecidableEq α] [DecidableEq β] {nx : α → α} {ny : β → β}
theorem ring_map (hinj : ∀ x ∈ all, ∀ y ∈ all, g x = g y → x = y) (hall : ∀ x ∈ all, nx x ∈ all) (hg : ∀ x ∈ all, ny (g x) = g (nx x)) :
    ∀ (k : Nat) {seen : List α} {x : α}, (∀ y ∈ seen, y ∈ all) → x ∈ all → ring ny k (seen.map g) (g x) = (ring nx k seen x).map g
  | 0, seen, x, _, _ => by rw [ring, ring]; rfl
  | k + 1, seen, x, hs, hx => by
    have hm := mem_map_of hinj hs hx
    by_cases c : x ∈ seen
    · rw [ring_seen nx c, ring_seen ny (hm.2 c)]; rfl
    · have := ring_map hinj hall hg k (seen := seen ++ [x]) (x := nx x) (fun y hy => by
        rcases List.mem_append.1 hy with hy | hy
        · exact hs y hy
        · rw [List.mem_singleton] at hy; exact hy ▸ hx) (hall x hx)
      rw [List.map_append, List.map_singleton] at this
      rw [ring_new nx c, ring_new ny (fun h => c (hm.1 h)), List.map_cons, hg x hx, this]
theorem rings_map (hinj : ∀ x ∈ all, ∀ y ∈ all, g x = g y → x = y) (hall : ∀ x ∈ all, nx x ∈ all) (hg : ∀ x ∈ all, ny (g x) = g (nx x)) (N : Nat) :
    ∀ {ds seen : List α}, (∀ y ∈ seen, y ∈ all) → (∀ y ∈ ds, y ∈ all) → rings ny N (seen.map g) (ds.map g) = (rings nx N seen ds).map (List.map g)
  | [], seen, _, _ => by rw [List.map_nil, rings_nil, rings_nil]; rfl
  | d :: ds, seen, hs, hd => by
    have hx := hd d (by simp)
    have hm := mem_map_of hinj hs hx
    have hd' : ∀ y ∈ ds, y ∈ all := fun y hy => hd y (by simp [hy])
    rw [List.map_cons]
    by_cases c : d ∈ seen
    · rw [rings_seen nx c, rings_seen ny (hm.2 c)]
      exact rings_map hinj hall hg N hs hd'
    · rw [rings_new nx c, rings_new ny (fun h => c (hm.1 h)), List.map_cons, ring_map hinj hall hg N hs hx, ← List.map_append]
      congr 1
      exact rings_map hinj hall hg N (fun y hy => by
        rcases List.mem_append.1 hy with hy | hy
        · exact hs y hy
        · exact ring_sub nx hall N seen hx y hy) hd'
end

section
variable {M : Nat} {f : Nat → Nat}
theorem ring_orb (f : Nat → Nat) : ∀ (k : Nat) (seen : List Nat) (x : Nat), ∀ y ∈ ring f k seen x, Orb f x y
  | 0, seen, x, y, h => by rw [ring] at h; cases h
  | k + 1, seen, x, y, h => by
    by_cases c : x ∈ seen
    · rw [ring_seen f c] at h; cases h
    · rw [ring_new f c] at h
      rcases List.mem_cons.1 h with rfl | h
      · exact Orb.refl f _
      · exact (Orb.one f x).trans (ring_orb f k _ _ y h)
theorem ring_next (h : Pm M f) : ∀ (k : Nat) {seen : List Nat} {x : Nat}, seen.Nodup → (∀ y ∈ seen, y < M) → x < M → M < k + seen.length → ∀ y ∈ ring f k seen x, f y ∈ seen ++ ring f k seen x
  | 0, seen, x, _, _, _, _, y, hy => by rw [ring] at hy; cases hy
  | k + 1, seen, x, hn, hs, hx, hk, y, hy => by
    by_cases c : x ∈ seen
    · rw [ring_seen f c] at hy; cases hy
    · rw [ring_new f c] at hy ⊢
      have hs' : ∀ y ∈ seen ++ [x], y < M := fun y hy => by
        rcases List.mem_append.1 hy with hy | hy
        · exact hs y hy
        · rw [List.mem_singleton] at hy; exact hy ▸ hx
      have e : seen ++ x :: ring f k (seen ++ [x]) (f x) = seen ++ [x] ++ ring f k (seen ++ [x]) (f x) := by simp
      rw [e]
      rcases List.mem_cons.1 hy with rfl | hy
      · by_cases d : f y ∈ seen ++ [y]
        · exact List.mem_append.2 (.inl d)
        · refine List.mem_append.2 (.inr (ring_head f d ?_))
          have := nodup_le (nodup_snoc hn c) (m := List.range M) fun z hz => List.mem_range.2 (hs' z hz)
          simp at this hk
          omega
      · exact ring_next h k (nodup_snoc hn c) hs' (h.lt x hx) (by simp; omega) y hy
theorem ring_is (h : Pm M f) {k : Nat} {seen : List Nat} {x : Nat} (hn : seen.Nodup) (hs : ∀ y ∈ seen, y < M) (hc : ∀ y, f y ∈ seen → y ∈ seen) (hx : x < M) (hx' : x ∉ seen) (hk : M < k) {y : Nat} :
    y ∈ ring f k seen x ↔ Orb f x y := by
  refine ⟨ring_orb f k seen x y, fun ho => ?_⟩
  have hnd := ring_nodup f k (seen := seen) x hn
  refine ho.ind (P := fun y => y ∈ ring f k seen x) (fun z hz => ?_) (ring_head f hx' (by omega))
  rcases List.mem_append.1 (ring_next h k hn hs hx (by omega) z hz) with h1 | h1
  · exact absurd rfl ((List.nodup_append.1 hnd).2.2 z (hc z h1) z hz)
  · exact h1
/- each ring is an orbit, all of it -/
theorem rings_is (h : Pm M f) {N : Nat} (hN : M < N) : ∀ {ds seen : List Nat}, seen.Nodup → (∀ y ∈ seen, y < M) → (∀ y, f y ∈ seen → y ∈ seen) → (∀ d ∈ ds, d < M) → ∀ r ∈ rings f N seen ds, ∀ x ∈ r, ∀ y, y ∈ r ↔ Orb f x y
  | [], seen, _, _, _, _, r, hr => by rw [rings_nil] at hr; cases hr
  | d :: ds, seen, hn, hs, hc, hd, r, hr => by
    have hd' : ∀ y ∈ ds, y < M := fun y hy => hd y (by simp [hy])
    by_cases c : d ∈ seen
    · rw [rings_seen f c] at hr
      exact rings_is h hN hn hs hc hd' r hr
    · have hdm := hd d (by simp)
      have hm := fun y => ring_is h (y := y) hn hs hc hdm c hN
      rw [rings_new f c] at hr
      rcases List.mem_cons.1 hr with rfl | hr
      · intro x hx y
        rw [hm]
        have := (hm x).1 hx
        exact ⟨fun k => (h.symm this).trans k, fun k => this.trans k⟩
      · refine rings_is h hN (ring_nodup f N d hn) (fun y hy => ?_) (fun y hy => ?_) hd' r hr
        · rcases List.mem_append.1 hy with hy | hy
          · exact hs y hy
          · exact Orb.lt h hdm ((hm y).1 hy)
        · rcases List.mem_append.1 hy with hy | hy
          · exact List.mem_append.2 (.inl (hc y hy))
          · exact List.mem_append.2 (.inr ((hm y).2 (((hm _).1 hy).trans (h.back y))))
end

/- classes as lists -/
theorem one_least {R : Nat → Nat → Prop} (hR : Equivalence R) {l : List Nat} (hn : l.Nodup) (hl : l ≠ []) (hc : ∀ x ∈ l, ∀ y, R x y → y ∈ l) (hi : ∀ x ∈ l, ∀ y ∈ l, R x y) : l.countP (fun d => tr (Least R d)) = 1 := by
  obtain ⟨a, ha⟩ := List.exists_mem_of_ne_nil l hl
  obtain ⟨r, _, h2, h3⟩ := least_of hR a
  have hr : r ∈ l := hc a ha r (hR.symm h2)
  have := countP_but hn (p := fun d => tr (Least R d)) (q := fun _ => false) (x := r) hr (tr_iff.2 h3) fun d hd => by
    by_cases c : d = r
    · simp [c]
    · have : ¬ Least R d := fun k => c (least_eq hR k h3 (hi d hd r hr))
      rw [tr_false.2 this]; rfl
  rw [← this]
  have h0 : l.countP (fun _ => false) = 0 := List.countP_eq_zero.2 fun x _ => by simp
  rw [h0]
theorem sum_one : ∀ {l : List (List Nat)} {p : Nat → Bool}, (∀ r ∈ l, r.countP p = 1) → l.flatten.countP p = l.length
  | [], _, _ => rfl
  | r :: l, p, h => by
    rw [List.flatten_cons, List.countP_append, h r (by simp), sum_one fun r hr => h r (by simp [hr]), List.length_cons]; omega
theorem cl_lists {N : Nat} {R : Nat → Nat → Prop} (hR : Equivalence R) {ll : List (List Nat)} (hp : ll.flatten.Perm (List.range N)) (hne : ∀ l ∈ ll, l ≠ []) (hc : ∀ l ∈ ll, ∀ x ∈ l, ∀ y, y ∈ l ↔ R x y) : cl N R = ll.length := by
  unfold cl
  rw [← hp.countP_eq]
  refine sum_one fun l hl => ?_
  refine one_least hR ?_ (hne l hl) (fun x hx y => (hc l hl x hx y).2) fun x hx y hy => (hc l hl x hx y).1 hy
  exact (hp.nodup_iff.2 List.nodup_range).sublist (List.sublist_flatten_of_mem hl)
end Go.Proofs.Ytcfpdeeipbekfaa.Kn

/- A diagram's faces are orbits, its pieces classes; what is planar is coloured like a board: plain mathematics. -/
namespace Go.Proofs.Ytcfpdeeipbekfaa.Kn

/- a place turned round its crossing; the pairs of places that arcs join -/
def sig (n k : Nat) : Nat := if k < 4 * n then k / 4 * 4 + (k % 4 + 3) % 4 else k
def ens (X : List Cr) : Prs := (arcs X).map fun a => (pk (endP X true a), pk (endP X false a))
theorem sig_pm (n : Nat) : Pm (4 * n) (sig n) := by
  refine ⟨fun x hx => ?_, fun x hx => ?_, fun x y e => ?_⟩
  · unfold sig; rw [if_pos hx]; omega
  · unfold sig; rw [if_neg (by omega)]
  · unfold sig at e
    split at e <;> split at e <;> omega
theorem pk_inj {p q : Pl} (hp : p.2 < 4) (hq : q.2 < 4) (e : pk p = pk q) : p = q := by
  have := congrArg pl e
  rwa [pl_pk hp, pl_pk hq] at this
theorem sig_pk {n : Nat} {p : Pl} (h1 : p.1 < n) (h2 : p.2 < 4) : sig n (pk p) = pk (p.1, (p.2 + 3) % 4) := by
  unfold sig pk
  rw [if_pos (by omega)]
  simp only
  omega
theorem it_sig {n c : Nat} (hc : c < n) {s : Nat} (hs : s < 4) : ∀ k, it (sig n) k (c * 4 + s) = c * 4 + (s + 3 * k) % 4
  | 0 => by rw [it]; omega
  | k + 1 => by
    rw [it, it_sig hc hs k]
    unfold sig
    rw [if_pos (by omega)]
    omega
theorem sig_orb {n x y : Nat} (hx : x < 4 * n) : Orb (sig n) x y ↔ x / 4 = y / 4 := by
  have e1 : x / 4 * 4 + x % 4 = x := by omega
  constructor
  · rintro ⟨k, e⟩
    rw [← e1, it_sig (by omega) (by omega)] at e
    omega
  · intro e
    refine ⟨(x % 4 + 4 - y % 4) % 4, ?_⟩
    rw [← e1, it_sig (by omega) (by omega)]
    omega
/- the four places of a crossing -/
def blk (c : Nat) : List Nat := [c * 4, c * 4 + 1, c * 4 + 2, c * 4 + 3]
theorem mem_blk {x c : Nat} : x ∈ blk c ↔ x / 4 = c := by
  unfold blk
  simp only [List.mem_cons, List.not_mem_nil, or_false]
  omega
theorem range_blk (m : Nat) : List.range (4 * (m + 1)) = List.range (4 * m) ++ blk m := by
  rw [show 4 * (m + 1) = 4 * m + 1 + 1 + 1 + 1 by omega, List.range_succ, List.range_succ, List.range_succ, List.range_succ]
  unfold blk
  simp [Nat.mul_comm]
theorem blks : ∀ n, (List.range n).flatMap blk = List.range (4 * n)
  | 0 => rfl
  | n + 1 => by rw [List.range_succ, List.flatMap_append, blks n, range_blk]; simp
theorem mem_blks {l : List Nat} {x : Nat} : x ∈ l.flatMap blk ↔ x / 4 ∈ l := by
  rw [List.mem_flatMap]
  constructor
  · rintro ⟨c, hc, h⟩
    rw [mem_blk.1 h]; exact hc
  · exact fun h => ⟨_, h, mem_blk.2 rfl⟩
theorem cl_sig (n : Nat) : cl (4 * n) (Orb (sig n)) = n := by
  have := cl_lists (sig_pm n).equiv (ll := (List.range n).map blk) (by rw [← List.flatMap_def, blks]) (fun l hl => by
    obtain ⟨c, _, rfl⟩ := List.mem_map.1 hl
    unfold blk; simp) (fun l hl x hx y => by
    obtain ⟨c, hc, rfl⟩ := List.mem_map.1 hl
    rw [List.mem_range] at hc
    rw [mem_blk] at hx ⊢
    rw [sig_orb (by omega)]
    omega)
  rw [this]; simp

section
variable {X : List Cr}
theorem Ok.ens_good (h : Ok X) : Good (4 * X.length) (ens X) := by
  intro e he
  obtain ⟨a, ha, rfl⟩ := List.mem_map.1 he
  have ha := mem_arcs.1 ha
  refine ⟨pk_lt (h.isPl_end ha), pk_lt (h.isPl_end ha), fun k => ?_⟩
  have := pk_inj (h.isPl_end ha).2 (h.isPl_end ha).2 k
  have h1 := h.cm_end (io := true) ha
  have h2 := h.cm_end (io := false) ha
  rw [this, h2] at h1; cases h1
theorem Ok.ens_dis (h : Ok X) : Dis (ens X) := by
  unfold Dis ens
  rw [List.pairwise_map]
  refine List.Pairwise.imp_of_mem (fun {a b} ha hb hne => ?_) (arcs_nodup X)
  have ha := mem_arcs.1 ha
  have hb := mem_arcs.1 hb
  have key : ∀ io jo, pk (endP X io a) ≠ pk (endP X jo b) := fun io jo k => by
    have := pk_inj (h.isPl_end ha).2 (h.isPl_end hb).2 k
    have h1 := h.arc_end (io := io) ha
    rw [this, h.arc_end hb] at h1
    exact hne h1.symm
  exact ⟨key _ _, key _ _, key _ _, key _ _⟩
theorem Ok.mem_ens (h : Ok X) {p : Pl} (hp : isPl X p) : ∃ e ∈ ens X, (pk p = e.1 ∧ pk (other X p) = e.2) ∨ (pk p = e.2 ∧ pk (other X p) = e.1) := by
  have ha := h.isArc hp
  have he := h.end_eq hp
  refine ⟨_, List.mem_map.2 ⟨arcN X p, mem_arcs.2 ha, rfl⟩, ?_⟩
  unfold other
  cases c : cm X p with
  | true =>
    rw [c] at he
    left; exact ⟨by rw [he], rfl⟩
  | false =>
    rw [c] at he
    right; exact ⟨by rw [he], rfl⟩
theorem Ok.mate_pk (h : Ok X) {p : Pl} (hp : isPl X p) : mate (ens X) (pk p) = pk (other X p) := by
  obtain ⟨e, he, k⟩ := h.mem_ens hp
  obtain ⟨m1, m2⟩ := mate_pair h.ens_dis he
  rcases k with ⟨k1, k2⟩ | ⟨k1, k2⟩
  · rw [k1, k2, m1]
  · rw [k1, k2, m2]
abbrev fac (X : List Cr) : Nat → Nat := phi (sig X.length) (ens X)
theorem Ok.fac_pk (h : Ok X) {p : Pl} (hp : isPl X p) : fac X (pk p) = pk (other X (p.1, (p.2 + 3) % 4)) := by
  unfold fac phi
  rw [sig_pk hp.1 hp.2, h.mate_pk (isPl_turn hp 3)]
theorem Ok.fac_head (h : Ok X) {d : Dt} (hd : Kn.isArc X d.1) : fac X (pk (head X d)) = pk (head X (left X d)) := h.fac_pk (h.isPl_head hd)
theorem Ok.head_inj (h : Ok X) {d e : Dt} (hd : Kn.isArc X d.1) (he : Kn.isArc X e.1) (k : head X d = head X e) : d = e := by
  have h1 := h.arc_end (io := !d.2) hd
  have h2 := h.cm_end (io := !d.2) hd
  have k' : endP X (!d.2) d.1 = endP X (!e.2) e.1 := k
  rw [k', h.arc_end he] at h1
  rw [k', h.cm_end he] at h2
  obtain ⟨a, b⟩ := d
  obtain ⟨a', b'⟩ := e
  simp only at h1 h2
  rw [h1]
  cases b <;> cases b' <;> simp at h2 <;> rfl
/- the faces, as lists of places -/
theorem Ok.faces_map (h : Ok X) : rings (fac X) (4 * X.length + 1) [] ((darts X).map fun d => pk (head X d)) = (facesL X).map (List.map fun d => pk (head X d)) := by
  have := rings_map (nx := left X) (ny := fac X) (g := fun d => pk (head X d)) (all := darts X) (fun d hd e he k => by
      have h1 := mem_darts.1 hd
      have h2 := mem_darts.1 he
      exact h.head_inj h1 h2 (pk_inj (h.isPl_head h1).2 (h.isPl_head h2).2 k))
    (fun d hd => mem_darts.2 (h.isArc_left (mem_darts.1 hd))) (fun d hd => h.fac_head (mem_darts.1 hd)) (4 * X.length + 1) (ds := darts X) (seen := []) (fun y hy => by cases hy) (fun y hy => hy)
  exact this
theorem Ok.fac_pm (h : Ok X) : Pm (4 * X.length) (fac X) := phi_pm (sig_pm _) h.ens_good
theorem Ok.heads_lt (h : Ok X) : ∀ y ∈ (darts X).map fun d => pk (head X d), y < 4 * X.length := fun y hy => by
  obtain ⟨d, hd, rfl⟩ := List.mem_map.1 hy
  exact pk_lt (h.isPl_head (mem_darts.1 hd))
theorem Ok.heads_perm (h : Ok X) : ((darts X).map fun d => pk (head X d)).Perm (List.range (4 * X.length)) := by
  refine perm_of_sub ?_ List.nodup_range (fun x hx => List.mem_range.2 (h.heads_lt x hx)) (by simp [darts_length])
  rw [List.Nodup, List.pairwise_map]
  refine List.Pairwise.imp_of_mem (fun {d e} hd he hne k => ?_) (darts_nodup X)
  have h1 := mem_darts.1 hd
  have h2 := mem_darts.1 he
  exact hne (h.head_inj h1 h2 (pk_inj (h.isPl_head h1).2 (h.isPl_head h2).2 k))
theorem Ok.faces_is (h : Ok X) : ∀ r ∈ (facesL X).map (List.map fun d => pk (head X d)), ∀ x ∈ r, ∀ y, y ∈ r ↔ Orb (fac X) x y := by
  rw [← h.faces_map]
  exact rings_is h.fac_pm (by omega) (by simp) (fun y hy => by cases hy) (fun y hy => by cases hy) h.heads_lt
theorem Ok.faces_flat (h : Ok X) : ((facesL X).map (List.map fun d => pk (head X d))).flatten.Perm (List.range (4 * X.length)) := by
  rw [← List.map_flatten]
  exact ((faces_perm h).map _).trans h.heads_perm
theorem faces_ne (X : List Cr) : ∀ l ∈ facesL X, l ≠ [] := rings_ne (left X) (by omega) (darts X) []
theorem Ok.cl_faces (h : Ok X) : cl (4 * X.length) (Orb (fac X)) = (facesL X).length := by
  have := cl_lists h.fac_pm.equiv h.faces_flat (fun l hl => by
    obtain ⟨f, hf, rfl⟩ := List.mem_map.1 hl
    have := faces_ne X f hf
    simpa using this) h.faces_is
  rw [this, List.length_map]

/- pieces -/
abbrev pie (X : List Cr) : Nat → Nat → Prop := com (sig X.length) (ens X)
theorem Ok.pie_con (h : Ok X) {x y : Nat} (hx : x < 4 * X.length) : pie X x y ↔ Con X (x / 4) (y / 4) := by
  have hcm := com_equiv (sig_pm X.length) (ens X)
  have same : ∀ {x y : Nat}, x < 4 * X.length → x / 4 = y / 4 → pie X x y := fun {x y} hx e => com_sub ((sig_orb hx).2 e)
  constructor
  · intro k
    have := com_least (R := fun x y => x = y ∨ (x < 4 * X.length ∧ y < 4 * X.length ∧ Con X (x / 4) (y / 4))) ⟨fun x => .inl rfl, fun {x y} k => ?_, fun {x y z} k l => ?_⟩ (fun x => ?_) (fun e he => ?_) k
    · rcases this with rfl | ⟨_, _, k⟩
      · exact .refl _
      · exact k
    · rcases k with rfl | ⟨k1, k2, k3⟩
      · exact .inl rfl
      · exact .inr ⟨k2, k1, k3.symm h.nbc_symm⟩
    · rcases k with rfl | ⟨k1, k2, k3⟩
      · exact l
      · rcases l with rfl | ⟨l1, l2, l3⟩
        · exact .inr ⟨k1, k2, k3⟩
        · exact .inr ⟨k1, l2, k3.trans l3⟩
    · by_cases c : x < 4 * X.length
      · right
        refine ⟨c, (sig_pm X.length).lt x c, ?_⟩
        rw [← (sig_orb c).1 (Orb.one _ x)]
        exact .refl _
      · exact .inl ((sig_pm X.length).out x (by omega)).symm
    · obtain ⟨a, ha, rfl⟩ := List.mem_map.1 he
      have ha := mem_arcs.1 ha
      have p1 := h.isPl_end (io := true) ha
      have p2 := h.isPl_end (io := false) ha
      right
      refine ⟨pk_lt p1, pk_lt p2, ?_⟩
      have e1 : ∀ {p : Pl}, p.2 < 4 → pk p / 4 = p.1 := fun {p} hp => by unfold pk; omega
      rw [e1 p1.2, e1 p2.2]
      refine .step (.refl _) ?_
      unfold nbc
      rw [if_pos p1.1]
      refine mem_nbs.2 ⟨(endP X true a).2, p1.2, ?_⟩
      show _ = (other X (endP X true a)).1
      unfold other
      rw [h.cm_end ha, h.arc_end ha]; rfl
  · intro k
    have : ∀ {c d : Nat}, Con X c d → c < X.length → ∀ x y, x / 4 = c → y / 4 = d → pie X x y := fun {c d} k => by
      induction k with
      | refl => exact fun hc x y h1 h2 => same (by omega) (by omega)
      | step hd he ih =>
        rename_i dd ee
        intro hc x y h1 h2
        have hdl := h.con_lt hc hd
        unfold nbc at he
        rw [if_pos hdl] at he
        obtain ⟨s, hs, e⟩ := mem_nbs.1 he
        have hp : isPl X (dd, s) := ⟨hdl, hs⟩
        obtain ⟨q, hq, k⟩ := h.mem_ens hp
        have j1 : pie X x (pk (dd, s)) := ih hc x (pk (dd, s)) h1 (by unfold pk; simp only; omega)
        have j2 : pie X (pk (dd, s)) (pk (other X (dd, s))) := by
          have := com_pair (sig_pm X.length) hq
          rcases k with ⟨k1, k2⟩ | ⟨k1, k2⟩
          · rw [k1, k2]; exact this
          · rw [k1, k2]; exact hcm.symm this
        have j3 : pie X (pk (other X (dd, s))) y := same (pk_lt (h.isPl_other hp)) (by
          have := (h.isPl_other hp).2
          unfold pk
          omega)
        exact hcm.trans j1 (hcm.trans j2 j3)
    exact this k (by omega) x y rfl rfl
theorem Ok.cl_pieces (h : Ok X) : cl (4 * X.length) (pie X) = (piecesL X).length := by
  have := cl_lists (com_equiv (sig_pm X.length) (ens X)) (ll := (piecesL X).map fun l => l.flatMap blk) (by
      have e : ((piecesL X).map fun l => l.flatMap blk).flatten = (piecesL X).flatten.flatMap blk := by
        generalize piecesL X = P
        induction P with
        | nil => rfl
        | cons p P ih => rw [List.map_cons, List.flatten_cons, List.flatten_cons, List.flatMap_append, ih]
      rw [e, ← blks]
      exact List.Perm.flatMap_right _ h.pieces_perm)
    (fun l hl => by
      obtain ⟨p, hp, rfl⟩ := List.mem_map.1 hl
      obtain ⟨c, hc⟩ := List.exists_mem_of_ne_nil _ (h.pieces_is p hp).ne
      have : c * 4 ∈ p.flatMap blk := mem_blks.2 (by rw [show c * 4 / 4 = c by omega]; exact hc)
      exact List.ne_nil_of_mem this)
    (fun l hl x hx y => by
      obtain ⟨p, hp, rfl⟩ := List.mem_map.1 hl
      rw [mem_blks] at hx ⊢
      have hc := (h.pieces_is p hp).con _ hx
      rw [hc.2]
      exact (h.pie_con (by omega)).symm)
  rw [this, List.length_map]
/- Euler -/
theorem Ok.euler (h : Ok X) : (facesL X).length ≤ X.length + 2 * (piecesL X).length ∧ ((facesL X).length + X.length) % 2 = 0 := by
  have h1 := Kn.euler (sig_pm X.length) h.ens_good
  have h2 := h.cl_faces
  have h3 := h.cl_pieces
  have h4 := cl_sig X.length
  have h5 : (ens X).length = 2 * X.length := by unfold ens; rw [List.length_map, arcs_length]; rfl
  unfold fac at h2
  unfold pie at h3
  rw [h2, h3, h4, h5] at h1
  omega
theorem sum_count {α : Type} {g : α → Nat} {m : Nat} : ∀ {l : List α}, (∀ f ∈ l, g f < m) → ((List.range m).map fun i => l.countP fun f => decide (g f = i)).sum = l.length
  | [], _ => by
    have : ∀ k, ((List.range k).map fun _ => 0).sum = 0 := fun k => by
      induction k with
      | zero => rfl
      | succ k ih => rw [List.range_succ, List.map_append, List.sum_append, ih]; rfl
    simpa using this m
  | f :: l, h => by
    have h1 := sum_count (g := g) (m := m) (l := l) fun x hx => h x (by simp [hx])
    have h2 : ∀ k, ((List.range k).map fun i => (f :: l).countP fun f => decide (g f = i)).sum = ((List.range k).map fun i => l.countP fun f => decide (g f = i)).sum + if g f < k then 1 else 0 := by
      intro k
      induction k with
      | zero => simp
      | succ k ih =>
        rw [List.range_succ, List.map_append, List.map_append, List.sum_append, List.sum_append, ih]
        simp only [List.map_cons, List.map_nil, List.sum_cons, List.sum_nil, List.countP_cons, decide_eq_true_eq]
        split <;> split <;> split <;> omega
    rw [h2, h1, if_pos (h f (by simp)), List.length_cons]
theorem getD_map {α β : Type} (d : α) (g : α → β) (l : List α) : (List.range l.length).map (fun i => g (l.getD i d)) = l.map g := by
  refine List.ext_getElem (by simp) fun i h1 h2 => ?_
  simp at h1
  simp [h1]
theorem sum_len : ∀ l : List (List Nat), (l.map fun p => p.length + 2).sum = l.flatten.length + 2 * l.length
  | [] => rfl
  | p :: l => by rw [List.map_cons, List.sum_cons, sum_len l, List.flatten_cons, List.length_append, List.length_cons]; omega
theorem Ok.face_at (h : Ok X) {f : List Dt} (hf : f ∈ facesL X) : (head X (f.headD (0, false))).1 < X.length := by
  obtain ⟨d, r, rfl⟩ : ∃ d r, f = d :: r := by
    cases f with
    | nil => exact absurd rfl (faces_ne X _ hf)
    | cons d r => exact ⟨d, r, rfl⟩
  have : Kn.isArc X d.1 := mem_darts.1 ((faces_perm h).mem_iff.1 (List.mem_flatten.2 ⟨_, hf, by simp⟩))
  exact (h.isPl_head this).1
theorem Ok.pieceAt_lt (h : Ok X) {c : Nat} (hc : c < X.length) : pieceAt X c < (piecesL X).length := by
  have hm : c ∈ (piecesL X).flatten := h.pieces_perm.mem_iff.2 (List.mem_range.2 hc)
  unfold pieceAt
  rw [List.findIdx_lt_length]
  obtain ⟨l, h1, h2⟩ := List.mem_flatten.1 hm
  exact ⟨l, h1, by simpa using h2⟩
theorem Ok.faces_sum (h : Ok X) : ((List.range (piecesL X).length).map (facesAt X)).sum = (facesL X).length :=
  sum_count (g := fun f : List Dt => pieceAt X (head X (f.headD (0, false))).1) (l := facesL X) fun _ hf => h.pieceAt_lt (h.face_at hf)
theorem Ok.lens_sum (h : Ok X) : ((List.range (piecesL X).length).map fun i => ((piecesL X).getD i []).length + 2).sum = X.length + 2 * (piecesL X).length := by
  rw [getD_map [] (fun p : List Nat => p.length + 2), sum_len, h.pieces_perm.length_eq, List.length_range]
theorem Ok.planar_count (h : Ok X) (hp : planarB X = true) : (facesL X).length = X.length + 2 * (piecesL X).length := by
  rw [← h.faces_sum, ← h.lens_sum]
  congr 1
  refine List.map_congr_left fun i hi => ?_
  have := List.all_eq_true.1 hp i hi
  rwa [decide_eq_true_eq] at this
end
end Go.Proofs.Ytcfpdeeipbekfaa.Kn

/- Tangles that are twisted, closed, and walked along: as plain functions. -/
namespace Go.Proofs.Ytcfpdeeipbekfaa.Kn

/- an end: a corner of a crossing, or tied to another end -/
structure En where
  c : Bool
  p : Pl
  o : Nat
deriving DecidableEq, Inhabited
structure Tg where
  ends : List En
  places : List Nat
  ties : Pl → Option Pl
  loops : Nat
def putT (f : Pl → Option Pl) (p q : Pl) (r : Pl) : Option Pl := if r = p then some q else f r
def en (l : List En) (k : Nat) : En := l.getD k default
def Tg.first : Tg := ⟨[⟨false, (0, 0), 1⟩, ⟨false, (0, 0), 0⟩, ⟨false, (0, 0), 3⟩, ⟨false, (0, 0), 2⟩], [], fun _ => none, 0⟩
def Tg.tie (t : Tg) (a b : Pl) : Tg := { t with ties := putT (putT t.ties a b) b a }
def Tg.glue (t : Tg) (k : Nat) (c : Pl) : Tg :=
  if (en t.ends k).c then t.tie (en t.ends k).p c else { t with ends := t.ends.set (en t.ends k).o ⟨true, c, 0⟩ }
def Tg.setE (t : Tg) (k : Nat) (e : En) : Tg := { t with ends := t.ends.set k e }
def Tg.many (t : Tg) : Nat := t.places.length / 4
/- a crossing more -/
def Tg.place (t : Tg) (above : Bool) : Tg := { t with places := t.places ++ if above then [0, 2, 3, 1] else [2, 3, 1, 0] }
def old0 (below : Bool) : Nat := if below then 2 else 1
def tied1 (below : Bool) : Nat := if below then 1 else 2
def Tg.twist (t : Tg) (below above : Bool) : Tg :=
  let c := t.many
  let t1 := ((t.place above).glue (old0 below) (c, 0)).glue 3 (c, tied1 below)
  (t1.setE (old0 below) ⟨true, (c, old0 below), 0⟩).setE 3 ⟨true, (c, 3), 0⟩
def Tg.join (t : Tg) (a b : Nat) : Tg :=
  let x := en t.ends a
  let y := en t.ends b
  if x.c then t.glue b x.p
  else if x.o = b then { t with loops := t.loops + 1 }
  else if y.c then t.glue a y.p
  else { t with ends := (t.ends.set x.o ⟨false, (0, 0), y.o⟩).set y.o ⟨false, (0, 0), x.o⟩ }

/- walking along strands: what is known of arcs (four a crossing) and of where strands come in (two a crossing; -1: not walked) -/
structure Wl where
  arcs : List Nat
  inn : List Int
/- which place a corner is: as it is laid, place by place -/
def placeF (places : List Nat) : Nat → Pl → Option Nat
  | 0, _ => none
  | k + 1, p => if p = (k / 4, places.getD k 9) then some (k % 4) else placeF places k p
def plOf (t : Tg) (p : Pl) : Option Nat := placeF t.places (4 * t.many) p
/- one step: where a strand comes out of a crossing, and where it comes in next -/
def stepW (W : Wl) (c s arc : Nat) : Wl := ⟨(W.arcs.set (c * 4 + s) arc).set (c * 4 + (s + 2) % 4) (arc + 1), W.inn.set (c * 2 + s % 2) s⟩
def nextP (t : Tg) (c s : Nat) : Option (Pl × Nat) :=
  match t.ties (c, t.places.getD (c * 4 + (s + 2) % 4) 9) with
  | none => none
  | some n => if 4 ≤ t.places.getD (c * 4 + (s + 2) % 4) 9 ∨ 20 ≤ n.1 ∨ 4 ≤ n.2 then none else match plOf t n with
    | none => none
    | some s' => some (n, s')
def walkF (t : Tg) : Nat → Nat → Nat → Nat → Wl → Option (Nat × Wl)
  | 0, _, _, _, _ => none
  | f + 1, c, s, arc, W =>
    if t.many ≤ c ∨ 4 ≤ s then none
    else if W.inn.getD (c * 2 + s % 2) 0 < 0 then
      match nextP t c s with
      | none => none
      | some (n, s') => walkF t f n.1 s' (arc + 1) (stepW W c s arc)
    else some (arc, W)
def ringF (t : Tg) (c s arc : Nat) (W : Wl) : Option (Nat × Wl) :=
  match walkF t (2 * t.many + 1) c s arc W with
  | none => none
  | some (e, W') => some (e, ⟨W'.arcs.map fun a => if a = e then arc else a, W'.inn⟩)
def ringsF (t : Tg) : List (Nat × Nat) → Nat → Wl → Option (Nat × Wl)
  | [], arc, W => some (arc, W)
  | (c, s) :: l, arc, W =>
    if W.inn.getD (c * 2 + s) 0 < 0 then
      match ringF t c s arc W with
      | none => none
      | some (e, W') => ringsF t l e W'
    else ringsF t l arc W
/- the crossing number c of what was walked -/
def crossF (W : Wl) (c : Nat) : Cr :=
  let i := (W.inn.getD (c * 2) 0).toNat
  let g := fun k => ((W.arcs.getD (c * 4 + (k + i) % 4) 0 : Nat) : Int)
  ⟨g 0, g 1, g 2, g 3, decide ((W.inn.getD (c * 2 + 1) 0 - W.inn.getD (c * 2) 0 + 4) % 4 = 3)⟩
def visitsL (n : Nat) : List (Nat × Nat) := (List.range n).flatMap fun c => [(c, 0), (c, 1)]
/- fractions -/
def expandF : Nat → Nat → Nat → List Nat
  | 0, _, _ => []
  | f + 1, p, q => if q = 0 then [] else p / q :: expandF f q (p % q)
def expandL (p q : Nat) : List Nat :=
  let l := expandF (q + 1) p q
  (if l.length % 2 = 0 then l.dropLast ++ [l.getLastD 0 - 1, 1] else l).reverse
end Go.Proofs.Ytcfpdeeipbekfaa.Kn

/- Plain mathematics: polynomials as lists of terms; what a list tells is its sums. -/
namespace Pl

abbrev T := Int × Int
/- the sum of coefficients times what a test tells of exponents -/
def tot (l : List T) (f : Int → Int) : Int := (l.map fun t => t.2 * f t.1).sum
theorem tot_nil (f : Int → Int) : tot [] f = 0 := rfl
theorem tot_cons (t : T) (l : List T) (f : Int → Int) : tot (t :: l) f = t.2 * f t.1 + tot l f := by simp [tot]
theorem tot_app (l m : List T) (f : Int → Int) : tot (l ++ m) f = tot l f + tot m f := by simp [tot]
/- the coefficient at e -/
def at1 (e : Int) : Int → Int := fun x => if x = e then 1 else 0
def co (l : List T) (e : Int) : Int := tot l (at1 e)
theorem co_cons (t : T) (l : List T) (e : Int) : co (t :: l) e = (if t.1 = e then t.2 else 0) + co l e := by
  simp only [co, tot_cons, at1]
  split <;> simp
theorem co_nil (e : Int) : co [] e = 0 := rfl
theorem co_app (l m : List T) (e : Int) : co (l ++ m) e = co l e + co m e := tot_app _ _ _

theorem tot_add (l : List T) (f g : Int → Int) : tot l (fun x => f x + g x) = tot l f + tot l g := by
  induction l with
  | nil => rfl
  | cons t l ih => rw [tot_cons, tot_cons, tot_cons, ih, Int.mul_add]; omega
theorem tot_mul (l : List T) (k : Int) (f : Int → Int) : tot l (fun x => k * f x) = k * tot l f := by
  induction l with
  | nil => simp [tot_nil]
  | cons t l ih => rw [tot_cons, tot_cons, ih, Int.mul_add, Int.mul_left_comm]
theorem tot_zero (l : List T) : tot l (fun _ => 0) = 0 := by
  induction l with
  | nil => rfl
  | cons t l ih => rw [tot_cons, ih]; simp

/- all terms of one exponent taken out -/
def out (e : Int) (l : List T) : List T := l.filter fun t => t.1 != e
theorem tot_out (e : Int) (f : Int → Int) : ∀ l : List T, tot l f = co l e * f e + tot (out e l) f
  | [] => by simp [tot_nil, co_nil, out]
  | t :: l => by
    have ih := tot_out e f l
    rw [tot_cons, co_cons]
    by_cases h : t.1 = e
    · have : out e (t :: l) = out e l := by simp [out, h]
      rw [this, if_pos h, ih, Int.add_mul, h]; omega
    · have : out e (t :: l) = t :: out e l := by simp [out, h]
      rw [this, if_neg h, tot_cons, ih]; simp; omega
theorem co_out (e x : Int) (l : List T) : co (out e l) x = if x = e then 0 else co l x := by
  have h := tot_out e (at1 x) l
  by_cases c : x = e
  · subst c
    have h2 : at1 x x = 1 := by simp [at1]
    rw [h2] at h
    simp only [co] at *
    rw [if_pos trivial]; omega
  · have h2 : at1 x e = 0 := by simp [at1]; omega
    rw [h2] at h
    simp only [co] at *
    rw [if_neg c]; omega
theorem out_length (t : T) (l : List T) : (out t.1 (t :: l)).length ≤ l.length := by
  have : out t.1 (t :: l) = out t.1 l := by simp [out]
  rw [this]; exact List.length_filter_le _ _
theorem tot_of_zero (f : Int → Int) : ∀ (n : Nat) (l : List T), l.length ≤ n → (∀ e, co l e = 0) → tot l f = 0
  | _, [], _, _ => rfl
  | 0, _ :: _, h, _ => by simp at h
  | n + 1, t :: l, h, h0 => by
    rw [tot_out t.1 f (t :: l), h0, Int.zero_mul, Int.zero_add]
    refine tot_of_zero f n _ (Nat.le_trans (out_length t l) (by simpa using h)) fun e => ?_
    rw [co_out, h0]; simp
def neg (l : List T) : List T := l.map fun t => (t.1, -t.2)
theorem tot_neg (l : List T) (f : Int → Int) : tot (neg l) f = -tot l f := by
  induction l with
  | nil => rfl
  | cons t l ih =>
    show tot ((t.1, -t.2) :: neg l) f = _
    rw [tot_cons, tot_cons, ih, Int.neg_add, Int.neg_mul]
/- lists with the same coefficients have the same sums -/
theorem tot_congr {l m : List T} (h : ∀ e, co l e = co m e) (f : Int → Int) : tot l f = tot m f := by
  have := tot_of_zero f _ (l ++ neg m) (Nat.le_refl _) fun e => by
    rw [co_app]
    show co l e + tot (neg m) (at1 e) = 0
    rw [tot_neg, h e]; show co m e + -co m e = 0; omega
  rw [tot_app, tot_neg] at this
  omega

/- products -/
def mul (a b : List T) : List T := a.flatMap fun s => b.map fun t => (s.1 + t.1, s.2 * t.2)
theorem tot_row (s : T) (b : List T) (f : Int → Int) : tot (b.map fun t => (s.1 + t.1, s.2 * t.2)) f = s.2 * tot b (fun y => f (s.1 + y)) := by
  induction b with
  | nil => simp [tot_nil]
  | cons t b ih => rw [List.map_cons, tot_cons, tot_cons, ih, Int.mul_add, Int.mul_assoc]
theorem tot_prod (a b : List T) (f : Int → Int) : tot (mul a b) f = tot a fun x => tot b fun y => f (x + y) := by
  induction a with
  | nil => rfl
  | cons s a ih =>
    show tot ((b.map fun t => (s.1 + t.1, s.2 * t.2)) ++ mul a b) f = _
    rw [tot_app, tot_row, ih, tot_cons]
theorem tot_swap (a b : List T) (g : Int → Int → Int) : (tot a fun x => tot b fun y => g x y) = tot b fun y => tot a fun x => g x y := by
  induction a with
  | nil => rw [tot_nil]; simp only [tot_nil]; exact (tot_zero b).symm
  | cons s a ih =>
    rw [tot_cons, ih]
    simp only [tot_cons]
    rw [tot_add, tot_mul]

theorem mul_comm (a b : List T) (f : Int → Int) : tot (mul a b) f = tot (mul b a) f := by
  rw [tot_prod, tot_prod, tot_swap]
  simp only [Int.add_comm]
theorem mul_assoc (a b c : List T) (f : Int → Int) : tot (mul (mul a b) c) f = tot (mul a (mul b c)) f := by
  rw [tot_prod, tot_prod, tot_prod]
  simp only [tot_prod, Int.add_assoc]
theorem mul_one (a : List T) (f : Int → Int) : tot (mul a [(0, 1)]) f = tot a f := by
  rw [tot_prod]
  simp only [tot_cons, tot_nil, Int.add_zero, Int.one_mul]
/- a product of lists with the same coefficients -/
theorem mul_congr {a a' b b' : List T} (ha : ∀ e, co a e = co a' e) (hb : ∀ e, co b e = co b' e) (f : Int → Int) : tot (mul a b) f = tot (mul a' b') f := by
  rw [tot_prod, tot_prod, tot_congr ha]
  congr 1
  funext x
  exact tot_congr hb _
/- in form: exponents go up, no coefficient is nought; then the coefficients tell the list -/
def Form : List T → Prop
  | [] => True
  | t :: l => t.2 ≠ 0 ∧ (∀ u ∈ l, t.1 < u.1) ∧ Form l
theorem co_below {e : Int} : ∀ {l : List T}, (∀ u ∈ l, e < u.1) → co l e = 0
  | [], _ => rfl
  | t :: l, h => by
    rw [co_cons, co_below fun u hu => h u (by simp [hu]), if_neg (by have := h t (by simp); omega)]; rfl
theorem form_unique : ∀ {l m : List T}, Form l → Form m → (∀ e, co l e = co m e) → l = m
  | [], [], _, _, _ => rfl
  | [], t :: m, _, hm, h => by
    have := h t.1
    rw [co_nil, co_cons, if_pos rfl, co_below hm.2.1] at this
    exact absurd (by omega) hm.1
  | t :: l, [], hl, _, h => by
    have := h t.1
    rw [co_nil, co_cons, if_pos rfl, co_below hl.2.1] at this
    exact absurd (by omega) hl.1
  | t :: l, u :: m, hl, hm, h => by
    have e1 : t.1 = u.1 := by
      rcases Int.lt_trichotomy t.1 u.1 with c | c | c
      · have := h t.1
        rw [co_cons, if_pos rfl, co_below hl.2.1, co_below (l := u :: m) (fun v hv => by
          rcases List.mem_cons.1 hv with rfl | hv
          · exact c
          · have := hm.2.1 v hv; omega)] at this
        exact absurd (by omega) hl.1
      · exact c
      · have := h u.1
        rw [co_cons u, if_pos rfl, co_below hm.2.1, co_below (l := t :: l) (fun v hv => by
          rcases List.mem_cons.1 hv with rfl | hv
          · exact c
          · have := hl.2.1 v hv; omega)] at this
        exact absurd (by omega) hm.1
    have e2 : t.2 = u.2 := by
      have := h t.1
      rw [co_cons, co_cons, if_pos rfl, if_pos e1.symm, co_below hl.2.1, e1, co_below hm.2.1] at this
      omega
    have e3 : t = u := Prod.ext e1 e2
    subst e3
    rw [form_unique hl.2.2 hm.2.2 fun e => by have := h e; rw [co_cons, co_cons] at this; omega]

/- sizes: what bounds every coefficient on the way -/
def size (l : List T) : Nat := (l.map fun t => t.2.natAbs).sum
theorem size_cons (t : T) (l : List T) : size (t :: l) = t.2.natAbs + size l := by simp [size]
theorem size_app (l m : List T) : size (l ++ m) = size l + size m := by simp [size]
theorem size_out (e : Int) : ∀ l : List T, (co l e).natAbs + size (out e l) ≤ size l
  | [] => by simp [co_nil, out, size]
  | t :: l => by
    have ih := size_out e l
    rw [co_cons, size_cons]
    by_cases h : t.1 = e
    · have : out e (t :: l) = out e l := by simp [out, h]
      rw [this, if_pos h]; omega
    · have : out e (t :: l) = t :: out e l := by simp [out, h]
      rw [this, if_neg h, size_cons, Int.zero_add]; omega
theorem size_form : ∀ {m l : List T}, Form m → (∀ e, co m e = co l e) → size m ≤ size l
  | [], _, _, _ => Nat.zero_le _
  | t :: m, l, hf, h => by
    have h1 := size_out t.1 l
    have h2 := h t.1
    rw [co_cons, if_pos rfl, co_below hf.2.1] at h2
    have h3 := size_form (l := out t.1 l) hf.2.2 fun e => by
      rw [co_out]
      split
      · next c => rw [c]; exact co_below hf.2.1
      · next c => rw [← h e, co_cons, if_neg fun x => c x.symm]; omega
    rw [size_cons]
    omega
theorem size_row (s : T) (b : List T) : size (b.map fun t => (s.1 + t.1, s.2 * t.2)) = s.2.natAbs * size b := by
  induction b with
  | nil => rfl
  | cons t b ih => rw [List.map_cons, size_cons, size_cons, ih, Int.natAbs_mul, Nat.mul_add]
theorem size_mul (a b : List T) : size (mul a b) = size a * size b := by
  induction a with
  | nil => simp [mul, size]
  | cons s a ih =>
    show size ((b.map fun t => (s.1 + t.1, s.2 * t.2)) ++ mul a b) = _
    rw [size_app, size_row, ih, size_cons, Nat.add_mul]
theorem co_none {l : List T} {e : Int} (h : ∀ t ∈ l, t.1 ≠ e) : co l e = 0 := by
  induction l with
  | nil => rfl
  | cons u l ih => rw [co_cons, if_neg (h u (by simp)), ih fun t ht => h t (by simp [ht])]; rfl
theorem form_co {m : List T} (hf : Form m) {t : T} (ht : t ∈ m) : co m t.1 = t.2 := by
  induction m with
  | nil => cases ht
  | cons u m ih =>
    rw [co_cons]
    rcases List.mem_cons.1 ht with rfl | ht
    · rw [if_pos rfl, co_below hf.2.1]; omega
    · rw [if_neg (by have := hf.2.1 t ht; omega), ih hf.2.2 ht]; omega
theorem form_ne {m : List T} (hf : Form m) {t : T} (ht : t ∈ m) : t.2 ≠ 0 := by
  induction m with
  | nil => cases ht
  | cons u m ih =>
    rcases List.mem_cons.1 ht with rfl | ht
    · exact hf.1
    · exact ih hf.2.2 ht
/- exponents of a form are exponents of what it was made of -/
theorem form_exp {m l : List T} (hf : Form m) (h : ∀ e, co m e = co l e) {t : T} (ht : t ∈ m) : ∃ u ∈ l, u.1 = t.1 := by
  refine Classical.byContradiction fun c => form_ne hf ht ?_
  rw [← form_co hf ht, h]
  exact co_none fun u hu e => c ⟨u, hu, e⟩

/- the form of a function over keys that go up -/
def Up : List Int → Prop
  | [] => True
  | k :: l => (∀ x ∈ l, k < x) ∧ Up l
def ofMap (f : Int → Int) : List Int → List T
  | [] => []
  | k :: l => if f k = 0 then ofMap f l else (k, f k) :: ofMap f l
theorem ofMap_mem {f : Int → Int} {ks : List Int} {t : T} (h : t ∈ ofMap f ks) : t.1 ∈ ks := by
  induction ks with
  | nil => cases h
  | cons k l ih =>
    unfold ofMap at h
    split at h
    · exact List.mem_cons_of_mem _ (ih h)
    · rcases List.mem_cons.1 h with rfl | h
      · simp
      · exact List.mem_cons_of_mem _ (ih h)
theorem ofMap_form {f : Int → Int} : ∀ {ks : List Int}, Up ks → Form (ofMap f ks)
  | [], _ => trivial
  | k :: l, h => by
    unfold ofMap
    split
    · exact ofMap_form h.2
    · next c => exact ⟨c, fun u hu => h.1 _ (ofMap_mem hu), ofMap_form h.2⟩
theorem ofMap_co {f : Int → Int} (e : Int) : ∀ {ks : List Int}, Up ks → co (ofMap f ks) e = if e ∈ ks then f e else 0
  | [], _ => by simp [ofMap, co_nil]
  | k :: l, h => by
    have ih := ofMap_co (f := f) e h.2
    unfold ofMap
    by_cases c : e = k
    · subst c
      have hn : e ∉ l := fun x => by have := h.1 e x; omega
      rw [if_neg hn] at ih
      split
      · next c0 => rw [ih, c0]; simp
      · rw [co_cons, if_pos rfl, ih]; simp
    · split
      · rw [ih]; simp [c]
      · rw [co_cons, if_neg fun x => c x.symm, ih]; simp [c]

/- a form is no longer than its room -/
theorem form_length {hi : Int} : ∀ {m : List T} {lo : Int}, Form m → (∀ t ∈ m, lo ≤ t.1 ∧ t.1 ≤ hi) → (m.length : Int) ≤ max 0 (hi - lo + 1)
  | [], _, _, _ => by simp; omega
  | t :: m, lo, hf, h => by
    have h1 := h t (by simp)
    have h2 := form_length (lo := t.1 + 1) hf.2.2 fun u hu => ⟨by have := hf.2.1 u hu; omega, (h u (by simp [hu])).2⟩
    rw [List.length_cons]
    omega

/- exponents within N, sizes within S -/
def In (N : Int) (S : Nat) (m : List T) : Prop := (∀ t ∈ m, -N ≤ t.1 ∧ t.1 ≤ N) ∧ size m ≤ S
/- is m the form of l? -/
def Is (m l : List T) : Prop := Form m ∧ ∀ e, co m e = co l e
/- what 'small' makes, key by key -/
theorem ofMap_app (f : Int → Int) : ∀ ks ls : List Int, ofMap f (ks ++ ls) = ofMap f ks ++ ofMap f ls
  | [], _ => rfl
  | k :: ks, ls => by
    show (if f k = 0 then ofMap f (ks ++ ls) else (k, f k) :: ofMap f (ks ++ ls)) = (if f k = 0 then ofMap f ks else (k, f k) :: ofMap f ks) ++ ofMap f ls
    rw [ofMap_app f ks ls]
    split <;> rfl
end Pl

/- Plain mathematics: a list of terms that is gone through in any order. -/
namespace Pl

theorem co_le (l : List T) (e : Int) : -(size l : Int) ≤ co l e ∧ co l e ≤ size l := by
  have := size_out e l
  omega
theorem co_le' {l : List T} {S : Nat} (h : size l ≤ S) (e : Int) : -(S : Int) ≤ co l e ∧ co l e ≤ S := by
  have := co_le l e
  omega
/- distinct exponents, each with the whole coefficient -/
theorem size_part : ∀ {d l : List T}, d.Pairwise (fun s t => s.1 ≠ t.1) → (∀ t ∈ d, t.2 = co l t.1) → size d ≤ size l
  | [], _, _, _ => Nat.zero_le _
  | t :: d, l, hp, hc => by
    have h1 := size_out t.1 l
    have h2 := hc t (by simp)
    rw [List.pairwise_cons] at hp
    have h3 := size_part (l := out t.1 l) hp.2 fun u hu => by
      rw [co_out, if_neg fun x => hp.1 u hu x.symm]
      exact hc u (by simp [hu])
    rw [size_cons]
    omega

/- part of a list, what is left being told by a test -/
structure Part (l : List T) (left : Int → Bool) (done : List T) : Prop where
  dist : done.Pairwise (fun s t => s.1 ≠ t.1)
  coef : ∀ t ∈ done, t.2 = co l t.1
  gone : ∀ t ∈ done, left t.1 = false
  all : ∀ e, left e = false → co done e = co l e
  exps : ∀ t ∈ done, ∃ u ∈ l, u.1 = t.1
theorem Part.start {l : List T} {left : Int → Bool} (h : ∀ e, left e = false → co l e = 0) : Part l left [] :=
  ⟨List.Pairwise.nil, by simp, by simp, fun e he => by rw [co_nil, h e he], by simp⟩
theorem Part.step {l done : List T} {left left' : Int → Bool} {x c : Int} (h : Part l left done) (hx : left x = true) (hl : ∀ e, left' e = (left e && !decide (e = x))) (hc : c = co l x) (hk : ∃ u ∈ l, u.1 = x) : Part l left' (done ++ [(x, c)]) := by
  have hne : ∀ t ∈ done, t.1 ≠ x := fun t ht e => by
    have := h.gone t ht
    rw [e, hx] at this
    cases this
  refine ⟨?_, fun t ht => ?_, fun t ht => ?_, fun e he => ?_, fun t ht => ?_⟩
  · rw [List.pairwise_append]
    exact ⟨h.dist, List.pairwise_singleton _ _, fun s hs t ht => by rw [List.mem_singleton] at ht; subst ht; exact hne s hs⟩
  · rcases List.mem_append.1 ht with ht | ht
    · exact h.coef t ht
    · rw [List.mem_singleton] at ht; subst ht; exact hc
  · rw [hl]
    rcases List.mem_append.1 ht with ht | ht
    · rw [h.gone t ht]; rfl
    · rw [List.mem_singleton] at ht; subst ht; simp
  · rw [hl] at he
    rw [co_app, co_cons, co_nil]
    by_cases hex : e = x
    · subst hex
      have : co done e = 0 := co_none hne
      rw [this, if_pos rfl, hc]; omega
    · rw [if_neg fun z => hex z.symm, h.all e (by simpa [hex] using he)]; omega
  · rcases List.mem_append.1 ht with ht | ht
    · exact h.exps t ht
    · rw [List.mem_singleton] at ht; subst ht; exact hk
theorem Part.size_le {l done : List T} {left : Int → Bool} (h : Part l left done) : size done ≤ size l := size_part h.dist h.coef
theorem Part.all' {l done : List T} {left : Int → Bool} (h : Part l left done) (hl : ∀ e, left e = false) (e : Int) : co done e = co l e := h.all e (hl e)

theorem mul_app (a b c : List T) : mul (a ++ b) c = mul a c ++ mul b c := by simp [mul]
theorem mul_one_snoc (x c : Int) (d : List T) (f g : Int) : mul [(x, c)] (d ++ [(f, g)]) = mul [(x, c)] d ++ [(x + f, c * g)] := by simp [mul]
theorem mul_exps {a a' b b' : List T} (ha : ∀ t ∈ a, ∃ u ∈ a', u.1 = t.1) (hb : ∀ t ∈ b, ∃ u ∈ b', u.1 = t.1) : ∀ t ∈ mul a b, ∃ u ∈ mul a' b', u.1 = t.1 := by
  intro t ht
  simp only [mul, List.mem_flatMap, List.mem_map] at ht ⊢
  obtain ⟨s, hs, u, hu, rfl⟩ := ht
  obtain ⟨s', hs', e1⟩ := ha s hs
  obtain ⟨u', hu', e2⟩ := hb u hu
  exact ⟨_, ⟨s', hs', u', hu', rfl⟩, by show s'.1 + u'.1 = s.1 + u.1; omega⟩
theorem app_exps {a a' b b' : List T} (ha : ∀ t ∈ a, ∃ u ∈ a', u.1 = t.1) (hb : ∀ t ∈ b, ∃ u ∈ b', u.1 = t.1) : ∀ t ∈ a ++ b, ∃ u ∈ a' ++ b', u.1 = t.1 := by
  intro t ht
  rcases List.mem_append.1 ht with ht | ht
  · obtain ⟨u, hu, e⟩ := ha t ht
    exact ⟨u, List.mem_append.2 (.inl hu), e⟩
  · obtain ⟨u, hu, e⟩ := hb t ht
    exact ⟨u, List.mem_append.2 (.inr hu), e⟩
theorem same_exps (a : List T) : ∀ t ∈ a, ∃ u ∈ a, u.1 = t.1 := fun t ht => ⟨t, ht, rfl⟩
/- the row under way: its sizes -/
theorem row_size {la lb done d2 : List T} {x c : Int} {f g : Int} (h1 : size (done ++ [(x, c)]) ≤ size la) (h2 : size (d2 ++ [(f, g)]) ≤ size lb) : size (mul done lb ++ mul [(x, c)] (d2 ++ [(f, g)])) ≤ size la * size lb := by
  rw [size_app, size_mul, size_mul]
  rw [size_app] at h1
  have e1 : size done * size lb + size [(x, c)] * size (d2 ++ [(f, g)]) ≤ size done * size lb + size [(x, c)] * size lb := Nat.add_le_add_left (Nat.mul_le_mul_left _ h2) _
  have e2 : size done * size lb + size [(x, c)] * size lb = (size done + size [(x, c)]) * size lb := by rw [Nat.add_mul]
  have e3 : (size done + size [(x, c)]) * size lb ≤ size la * size lb := Nat.mul_le_mul_right _ h1
  omega
theorem row_end {lb done d2 : List T} {x c : Int} (h : ∀ e, co d2 e = co lb e) (e : Int) : co (mul done lb ++ mul [(x, c)] d2) e = co (mul (done ++ [(x, c)]) lb) e := by
  rw [mul_app, co_app, co_app]
  have : co (mul [(x, c)] d2) e = co (mul [(x, c)] lb) e := mul_congr (fun _ => rfl) h _
  rw [this]
end Pl

/- States of a diagram: rings counted by joining arcs; sums over all states; equal sums, found by reckoning: plain mathematics. -/
namespace Go.Proofs.Ytcfpdeeipbekfaa.Kn

abbrev Qd := Nat × Nat × Nat × Nat
def qd (x : Cr) : Qd := (x.a.toNat, x.b.toNat, x.c.toNat, x.d.toNat)
/- the roots of all arcs, and how often two were made one -/
abbrev Rt := List Nat × Nat
def rt (r : List Nat) (a : Nat) : Nat := r.getD a 0
def un (s : Rt) (a b : Nat) : Rt := if rt s.1 a = rt s.1 b then s else (s.1.map fun z => if z = rt s.1 a then rt s.1 b else z, s.2 + 1)
def unA (s : Rt) (x : Qd) (bit : Nat) : Rt := if bit = 0 then un (un s x.1 x.2.1) x.2.2.1 x.2.2.2 else un (un s x.2.1 x.2.2.1) x.2.2.2 x.1
def stateF : List Qd → Rt → Nat → Rt
  | [], s, _ => s
  | x :: X, s, st => stateF X (unA s x (st % 2)) (st / 2)
def pop : Nat → Nat → Nat
  | 0, _ => 0
  | n + 1, st => st % 2 + pop n (st / 2)
/- the same, so written that it is reckoned fast -/
noncomputable def replR (a b : Nat) (l : List Nat) : List Nat := @List.rec Nat (fun _ => List Nat) [] (fun z _ ih => (bif Nat.beq z a then b else z) :: ih) l
noncomputable def getR (l : List Nat) : Nat → Nat := @List.rec Nat (fun _ => Nat → Nat) (fun _ => 0) (fun z _ ih k => @Nat.rec (fun _ => Nat) z (fun m _ => ih m) k) l
noncomputable def unR (r : List Nat) (m : Nat) (a b : Nat) (K : List Nat → Nat → Nat) : Nat :=
  (fun ra rb => bif Nat.beq ra rb then K r m else K (replR ra rb r) (m + 1)) (getR r a) (getR r b)
noncomputable def treeR (X : List Qd) : List Nat → Nat → Nat :=
  @List.rec _ (fun _ => List Nat → Nat → Nat) (fun _ c => 2 ^ (16 * c)) (fun x _ ih r c =>
    Nat.add (unR r c x.1 x.2.1 fun r c => unR r c x.2.2.1 x.2.2.2 fun r c => ih r c) (unR r (c + 25) x.2.1 x.2.2.1 fun r c => unR r c x.2.2.2 x.1 fun r c => ih r c)) X
def code (k : Nat × Nat) : Nat := 25 * k.1 + k.2
def start (n : Nat) : Rt := (List.range (2 * n + 1), 0)
noncomputable def hR (X : List Cr) : Nat := treeR (X.map qd) (List.range (2 * X.length + 1)) 0
end Go.Proofs.Ytcfpdeeipbekfaa.Kn

/- Kauffman's bracket as sums over states: lists of terms. -/
namespace Go.Proofs.Ytcfpdeeipbekfaa.Kn

def two : List Pl.T := [(2, -1), (-2, -1)]
/- powers of what a ring more gives -/
def pw : Nat → List Pl.T
  | 0 => [(0, 1)]
  | k + 1 => Pl.mul (pw k) two
def ringsN (X : List Cr) (L st : Nat) : Nat := 2 * X.length + L - (stateF (X.map qd) (start X.length) st).2
def kc (m r : Int) : Int := m * 64 + r
/- there is always a ring: joins are fewer than arcs -/
structure RtOk (n : Nat) (s : Rt) : Prop where
  len : s.1.length = 2 * n + 1
  rng : ∀ a, 1 ≤ a → a ≤ 2 * n → 1 ≤ rt s.1 a ∧ rt s.1 a ≤ 2 * n
  fix : ∀ a, 1 ≤ a → a ≤ 2 * n → rt s.1 (rt s.1 a) = rt s.1 a
  cnt : ((List.range (2 * n + 1)).countP fun a => decide (1 ≤ a) && decide (rt s.1 a = a)) + s.2 = 2 * n
theorem rt_map' (l : List Nat) (f : Nat → Nat) {a : Nat} (h : a < l.length) : rt (l.map f) a = f (rt l a) := by
  unfold rt
  rw [List.getD_eq_getElem?_getD, List.getD_eq_getElem?_getD, List.getElem?_map, List.getElem?_eq_getElem h]; rfl
theorem rt_start {n a : Nat} (h : a ≤ 2 * n) : rt (start n).1 a = a := by
  unfold rt start
  rw [List.getD_eq_getElem?_getD, List.getElem?_eq_getElem (by simp; omega)]; simp
theorem RtOk.start (n : Nat) : RtOk n (start n) := by
  refine ⟨by simp [Kn.start], fun a h1 h2 => by rw [rt_start h2]; exact ⟨h1, h2⟩, fun a h1 h2 => by rw [rt_start h2, rt_start h2], ?_⟩
  have e : ∀ m, m ≤ 2 * n → ((List.range (m + 1)).countP fun a => decide (1 ≤ a) && decide (rt (Kn.start n).1 a = a)) = m := by
    intro m
    induction m with
    | zero => intro _; simp
    | succ m ih =>
      intro h
      rw [List.range_succ, List.countP_append, ih (by omega), List.countP_cons, List.countP_nil, rt_start h]
      simp
  rw [e _ (Nat.le_refl _)]; rfl
theorem RtOk.un {n : Nat} {s : Rt} (h : RtOk n s) {a b : Nat} (ha : 1 ≤ a) (ha' : a ≤ 2 * n) (hb : 1 ≤ b) (hb' : b ≤ 2 * n) : RtOk n (un s a b) := by
  unfold Kn.un
  split
  · exact h
  · rename_i hne
    have hl := h.len
    have ra := h.rng a ha ha'
    have rb := h.rng b hb hb'
    have fa := h.fix a ha ha'
    have fb := h.fix b hb hb'
    have e : ∀ x, x ≤ 2 * n → rt (s.1.map fun z => if z = rt s.1 a then rt s.1 b else z) x = if rt s.1 x = rt s.1 a then rt s.1 b else rt s.1 x := fun x hx => rt_map' _ _ (by omega)
    refine ⟨by simpa using hl, fun x h1 h2 => ?_, fun x h1 h2 => ?_, ?_⟩
    · show 1 ≤ rt (s.1.map _) x ∧ _
      rw [e x h2]
      split
      · exact rb
      · exact h.rng x h1 h2
    · show rt (s.1.map _) (rt (s.1.map _) x) = rt (s.1.map _) x
      rw [e x h2]
      by_cases c : rt s.1 x = rt s.1 a
      · rw [if_pos c, e _ rb.2, fb, if_neg fun k => hne k.symm]
      · rw [if_neg c, e _ (h.rng x h1 h2).2, h.fix x h1 h2, if_neg c]
    · show (List.countP (fun x => decide (1 ≤ x) && decide (rt (s.1.map _) x = x)) _) + (s.2 + 1) = 2 * n
      have hb2 := countP_but (l := List.range (2 * n + 1)) List.nodup_range (p := fun a => decide (1 ≤ a) && decide (rt s.1 a = a)) (q := fun x => decide (1 ≤ x) && decide (rt (s.1.map fun z => if z = rt s.1 a then rt s.1 b else z) x = x)) (x := rt s.1 a)
        (List.mem_range.2 (by omega)) (by simp only [Bool.and_eq_true, decide_eq_true_eq]; exact ⟨ra.1, fa⟩) (fun d hd => by
          have hd' := List.mem_range.1 hd
          rw [e d (by omega), Bool.eq_iff_iff]
          simp only [Bool.and_eq_true, decide_eq_true_eq]
          constructor
          · rintro ⟨h1, h2⟩
            by_cases c : rt s.1 d = rt s.1 a
            · rw [if_pos c] at h2
              rw [← h2, fb] at c
              exact absurd c.symm hne
            · rw [if_neg c] at h2
              exact ⟨⟨h1, h2⟩, fun k => c (by rw [h2, k])⟩
          · rintro ⟨⟨h1, h2⟩, h3⟩
            have c : ¬ rt s.1 d = rt s.1 a := fun k => h3 (by rw [← h2, k])
            rw [if_neg c]
            exact ⟨h1, h2⟩)
      have := h.cnt
      omega
theorem RtOk.state {n : Nat} : ∀ {X : List Qd} {s : Rt} (_ : RtOk n s) (_ : ∀ q ∈ X, (1 ≤ q.1 ∧ q.1 ≤ 2 * n) ∧ (1 ≤ q.2.1 ∧ q.2.1 ≤ 2 * n) ∧ (1 ≤ q.2.2.1 ∧ q.2.2.1 ≤ 2 * n) ∧ (1 ≤ q.2.2.2 ∧ q.2.2.2 ≤ 2 * n)) (st : Nat), RtOk n (stateF X s st)
  | [], _, h, _, _ => h
  | q :: X, s, h, hq, st => by
    obtain ⟨⟨a1, a2⟩, ⟨b1, b2⟩, ⟨c1, c2⟩, d1, d2⟩ := hq q (by simp)
    rw [stateF]
    refine RtOk.state ?_ (fun r hr => hq r (by simp [hr])) _
    unfold unA
    split
    · exact (h.un a1 a2 b1 b2).un c1 c2 d1 d2
    · exact (h.un b1 b2 c1 c2).un d1 d2 a1 a2
theorem RtOk.lt {n : Nat} {s : Rt} (h : RtOk n s) (hn : 0 < n) : s.2 < 2 * n := by
  have h1 := h.rng 1 (Nat.le_refl _) (by omega)
  have h2 := h.fix 1 (Nat.le_refl _) (by omega)
  have : 0 < ((List.range (2 * n + 1)).countP fun a => decide (1 ≤ a) && decide (rt s.1 a = a)) := by
    rw [List.countP_pos_iff]
    exact ⟨rt s.1 1, List.mem_range.2 (by omega), by simp only [Bool.and_eq_true, decide_eq_true_eq]; exact ⟨h1.1, h2⟩⟩
  have := h.cnt
  omega
theorem Ok.qd_rng {X : List Cr} (hX : Ok X) : ∀ q ∈ X.map qd, (1 ≤ q.1 ∧ q.1 ≤ 2 * X.length) ∧ (1 ≤ q.2.1 ∧ q.2.1 ≤ 2 * X.length) ∧ (1 ≤ q.2.2.1 ∧ q.2.2.1 ≤ 2 * X.length) ∧ (1 ≤ q.2.2.2 ∧ q.2.2.2 ≤ 2 * X.length) := by
  intro q hq
  obtain ⟨x, hx, rfl⟩ := List.mem_map.1 hq
  obtain ⟨k, hk, rfl⟩ := List.getElem_of_mem hx
  have e : cr X k = X[k] := by unfold cr; rw [List.getD_eq_getElem?_getD, List.getElem?_eq_getElem hk]; rfl
  have h0 := hX.rng (k, 0) ⟨hk, (by omega : (0 : Nat) < 4)⟩
  have h1 := hX.rng (k, 1) ⟨hk, (by omega : (1 : Nat) < 4)⟩
  have h2 := hX.rng (k, 2) ⟨hk, (by omega : (2 : Nat) < 4)⟩
  have h3 := hX.rng (k, 3) ⟨hk, (by omega : (3 : Nat) < 4)⟩
  unfold at_ at h0 h1 h2 h3
  simp only [e] at h0 h1 h2 h3
  have f0 : X[k].arc 0 = X[k].a := rfl
  have f1 : X[k].arc 1 = X[k].b := rfl
  have f2 : X[k].arc 2 = X[k].c := rfl
  have f3 : X[k].arc 3 = X[k].d := rfl
  rw [f0] at h0; rw [f1] at h1; rw [f2] at h2; rw [f3] at h3
  have hn : (nArcs X : Int) = 2 * X.length := by unfold nArcs; omega
  rw [hn] at h0 h1 h2 h3
  unfold qd
  refine ⟨⟨?_, ?_⟩, ⟨?_, ?_⟩, ⟨?_, ?_⟩, ?_, ?_⟩ <;> simp only <;> omega
end Go.Proofs.Ytcfpdeeipbekfaa.Kn

/- Tangles walked along, with what the walk must meet. -/
namespace Go.Proofs.Ytcfpdeeipbekfaa.Kn

/- the diagram, where every strand was walked and every place is one of four -/
def Tg.diagramC (t : Tg) : Option (List Cr × Nat) :=
  match ringsF t (visitsL t.many) 1 ⟨List.replicate (4 * t.many) 0, List.replicate (2 * t.many) (-1)⟩ with
  | none => none
  | some (_, W) => if (W.inn.all fun x => decide (0 ≤ x ∧ x < 4)) && t.places.all fun x => decide (x < 4) then some ((List.range t.many).map (crossF W), t.loops) else none
end Go.Proofs.Ytcfpdeeipbekfaa.Kn

/- Determinants of rows by expansion, plain: rows of any kind, columns as what they read of a row. -/
namespace Go.Proofs.Ytcfpdeeipbekfaa.Kn
set_option linter.unusedVariables false

/-- Expansion along a row: what the columns read of it, times what is told of the columns left. -/
def lap {α : Type} (r : α) : (List (α → Rat) → Rat) → List (α → Rat) → Rat
  | _, [] => 0
  | f, c :: cs => c r * f cs - lap r (fun l => f (c :: l)) cs

def D {α : Type} : List α → List (α → Rat) → Rat
  | [], cs => if cs.isEmpty then 1 else 0
  | r :: rs, cs => lap r (D rs) cs

theorem lap_f {α : Type} (r : α) : ∀ (cs : List (α → Rat)) (f g h : List (α → Rat) → Rat) (a b : Rat), (∀ l, h l = a * f l + b * g l) → lap r h cs = a * lap r f cs + b * lap r g cs
  | [], f, g, h, a, b, _ => by simp [lap]; grind
  | c :: cs, f, g, h, a, b, e => by
    have := lap_f r cs (fun l => f (c :: l)) (fun l => g (c :: l)) (fun l => h (c :: l)) a b fun l => e _
    simp only [lap, e]
    grind
theorem lap_zero {α : Type} (r : α) (cs : List (α → Rat)) (f : List (α → Rat) → Rat) (h : ∀ l, f l = 0) : lap r f cs = 0 := by
  have := lap_f r cs f f f 0 0 fun l => by rw [h]; grind
  grind
theorem lap_smul {α : Type} (r : α) (cs : List (α → Rat)) {f g : List (α → Rat) → Rat} (a : Rat) (h : ∀ l, f l = a * g l) : lap r f cs = a * lap r g cs := by
  have := lap_f r cs g g f a 0 fun l => by rw [h]; grind
  grind
/-- Linear in the row. -/
theorem lap_row {α : Type} (r s u : α) (a b : Rat) : ∀ (cs : List (α → Rat)) (f : List (α → Rat) → Rat), (∀ c ∈ cs, c u = a * c r + b * c s) → lap u f cs = a * lap r f cs + b * lap s f cs
  | [], f, _ => by simp [lap]; grind
  | c :: cs, f, e => by
    have := lap_row r s u a b cs (fun l => f (c :: l)) fun d hd => e d (List.mem_cons_of_mem _ hd)
    simp only [lap, this, e c List.mem_cons_self]
    grind
/-- Twice along one row: nothing. -/
theorem lap_twice {α : Type} (r : α) : ∀ (cs : List (α → Rat)) (f : List (α → Rat) → Rat), lap r (fun l => lap r f l) cs = 0
  | [], f => rfl
  | c :: cs, f => by
    have h1 := lap_twice r cs fun l => f (c :: l)
    have h2 := lap_f r cs f (fun l => lap r (fun l => f (c :: l)) l) (fun l => lap r f (c :: l)) (c r) (-1) fun l => by simp only [lap]; grind
    simp only [lap] at h2 ⊢
    rw [h2, h1]
    grind

/-- Columns that change places change the sign. -/
def Alt {α : Type} (f : List (α → Rat) → Rat) : Prop := ∀ pre x y post, f (pre ++ x :: y :: post) = - f (pre ++ y :: x :: post)
theorem Alt.cons {α : Type} {f : List (α → Rat) → Rat} (h : Alt f) (c : α → Rat) : Alt fun l => f (c :: l) := fun pre x y post => h (c :: pre) x y post
theorem Alt.lap {α : Type} (r : α) : ∀ (pre : List (α → Rat)) (f : List (α → Rat) → Rat), Alt f → ∀ x y post, Kn.lap r f (pre ++ x :: y :: post) = - Kn.lap r f (pre ++ y :: x :: post)
  | [], f, h, x, y, post => by
    have := lap_f r post (fun l => f (x :: y :: l)) (fun l => f (x :: y :: l)) (fun l => f (y :: x :: l)) (-1) 0 fun l => by have := h [] y x l; simp only [List.nil_append] at this; rw [this]; grind
    simp only [List.nil_append, Kn.lap, this]
    grind
  | c :: pre, f, h, x, y, post => by
    have h1 := Alt.lap r pre _ (h.cons c) x y post
    have h2 := h pre x y post
    simp only [List.cons_append, Kn.lap, h1, h2]
    grind
theorem alt_D {α : Type} : ∀ rs : List α, Alt (D rs)
  | [] => fun pre x y post => by simp [D]
  | r :: rs => fun pre x y post => Alt.lap r pre _ (alt_D rs) x y post

/-- Linear in each column. -/
def ML {α : Type} (rs : List α) (f : List (α → Rat) → Rat) : Prop := ∀ pre (c d e : α → Rat) post (a b : Rat), (∀ r ∈ rs, e r = a * c r + b * d r) → f (pre ++ e :: post) = a * f (pre ++ c :: post) + b * f (pre ++ d :: post)
theorem ML.cons {α : Type} {rs : List α} {f : List (α → Rat) → Rat} (h : ML rs f) (x : α → Rat) : ML rs fun l => f (x :: l) := fun pre c d e post a b he => h (x :: pre) c d e post a b he
theorem ML.lap {α : Type} {rs : List α} (r : α) : ∀ (pre : List (α → Rat)) (f : List (α → Rat) → Rat), ML rs f → ∀ (c d e : α → Rat) post (a b : Rat), (∀ s ∈ r :: rs, e s = a * c s + b * d s) → Kn.lap r f (pre ++ e :: post) = a * Kn.lap r f (pre ++ c :: post) + b * Kn.lap r f (pre ++ d :: post)
  | [], f, h, c, d, e, post, a, b, he => by
    have := lap_f r post (fun l => f (c :: l)) (fun l => f (d :: l)) (fun l => f (e :: l)) a b fun l => h [] c d e l a b fun s hs => he s (List.mem_cons_of_mem _ hs)
    simp only [List.nil_append, Kn.lap, this, he r List.mem_cons_self]
    grind
  | x :: pre, f, h, c, d, e, post, a, b, he => by
    have h1 := ML.lap r pre _ (h.cons x) c d e post a b he
    have h2 := h pre c d e post a b fun s hs => he s (List.mem_cons_of_mem _ hs)
    simp only [List.cons_append, Kn.lap, h1, h2]
    grind
theorem ml_D {α : Type} : ∀ rs : List α, ML rs (D rs)
  | [] => fun pre c d e post a b he => by simp [D]; grind
  | r :: rs => fun pre c d e post a b he => ML.lap r pre _ (ml_D rs) c d e post a b he

/-- A column that reads 0 of all rows. -/
theorem D_zero_col {α : Type} (x : α → Rat) : ∀ (rs : List α) (cs : List (α → Rat)), (∀ r ∈ rs, x r = 0) → D rs (x :: cs) = 0
  | [], cs, _ => by simp [D]
  | r :: rs, cs, h => by
    have := lap_zero r cs (fun l => D rs (x :: l)) fun l => D_zero_col x rs l fun s hs => h s (List.mem_cons_of_mem _ hs)
    simp only [D, lap, this, h r List.mem_cons_self]
    grind
theorem D_pull {α : Type} (r : α) (rs : List α) (x : α → Rat) (cs : List (α → Rat)) (h : ∀ s ∈ rs, x s = 0) : D (r :: rs) (x :: cs) = x r * D rs cs := by
  have := lap_zero r cs (fun l => D rs (x :: l)) fun l => D_zero_col x rs l h
  simp only [D, lap, this]
  grind

/-- Rows that change places change the sign. -/
theorem lap_anti {α : Type} (r s : α) : ∀ (cs : List (α → Rat)) (f : List (α → Rat) → Rat), lap r (fun l => lap s f l) cs = - lap s (fun l => lap r f l) cs
  | [], f => by simp [lap]
  | c :: cs, f => by
    have h1 := lap_anti r s cs fun l => f (c :: l)
    have h2 := lap_f r cs f (fun l => lap s (fun l => f (c :: l)) l) (fun l => lap s f (c :: l)) (c s) (-1) fun l => by simp only [lap]; grind
    have h3 := lap_f s cs f (fun l => lap r (fun l => f (c :: l)) l) (fun l => lap r f (c :: l)) (c r) (-1) fun l => by simp only [lap]; grind
    simp only [lap] at h2 h3 ⊢
    rw [h2, h3, h1]
    grind
theorem D_swap {α : Type} (r s : α) (rs : List α) (cs : List (α → Rat)) : D (r :: s :: rs) cs = - D (s :: r :: rs) cs := lap_anti r s cs (D rs)
theorem D_same {α : Type} (r : α) (rs : List α) (cs : List (α → Rat)) : D (r :: r :: rs) cs = 0 := lap_twice r cs (D rs)

/-- One sign. -/
def Sg (e : Rat) : Prop := e = 1 ∨ e = -1
theorem Sg.mul {a b : Rat} (h : Sg a) (k : Sg b) : Sg (a * b) := by
  rcases h with rfl | rfl <;> rcases k with rfl | rfl <;> simp [Sg] <;> grind
theorem D_rows {α : Type} {rs rs' : List α} (h : rs.Perm rs') : ∃ e, Sg e ∧ ∀ cs, D rs cs = e * D rs' cs := by
  induction h with
  | nil => exact ⟨1, Or.inl rfl, fun cs => by grind⟩
  | cons r _ ih => obtain ⟨e, he, k⟩ := ih; exact ⟨e, he, fun cs => lap_smul r cs e k⟩
  | swap r s l => exact ⟨-1, Or.inr rfl, fun cs => by rw [D_swap]; grind⟩
  | trans _ _ ih ih' => obtain ⟨e, he, k⟩ := ih; obtain ⟨e', he', k'⟩ := ih'; exact ⟨e * e', he.mul he', fun cs => by rw [k, k']; grind⟩
theorem D_cols {α : Type} {cs cs' : List (α → Rat)} (h : cs.Perm cs') : ∃ e, Sg e ∧ ∀ rs : List α, ∀ pre, D rs (pre ++ cs) = e * D rs (pre ++ cs') := by
  induction h with
  | nil => exact ⟨1, Or.inl rfl, fun rs pre => by grind⟩
  | cons r _ ih => obtain ⟨e, he, k⟩ := ih; exact ⟨e, he, fun rs pre => by have := k rs (pre ++ [r]); simpa only [List.append_assoc, List.singleton_append] using this⟩
  | swap r s l => exact ⟨-1, Or.inr rfl, fun rs pre => by rw [alt_D rs pre s r l]; grind⟩
  | trans _ _ ih ih' => obtain ⟨e, he, k⟩ := ih; obtain ⟨e', he', k'⟩ := ih'; exact ⟨e * e', he.mul he', fun rs pre => by rw [k, k']; grind⟩

/-- Two columns that read the same: nothing. -/
theorem D_twin {α : Type} (rs : List α) (x : α → Rat) (pre cs : List (α → Rat)) (h : x ∈ cs) : D rs (pre ++ x :: cs) = 0 := by
  obtain ⟨a, b, rfl⟩ := List.append_of_mem h
  obtain ⟨e, he, k⟩ := D_cols (show (x :: (a ++ x :: b)).Perm (x :: x :: (a ++ b)) from List.Perm.cons _ List.perm_middle)
  have h0 := alt_D rs pre x x (a ++ b)
  rw [k rs pre]
  grind
/-- All rows' sums over the columns are 0: nothing. -/
theorem D_sum {α : Type} (rs : List α) (c : α → Rat) (cs : List (α → Rat)) (h : ∀ r ∈ rs, c r + (cs.map fun x => x r).sum = 0) : D rs (c :: cs) = 0 := by
  have key : ∀ (l cs' : List (α → Rat)) (c' : α → Rat), (∀ x ∈ l, x ∈ cs') → (∀ r ∈ rs, c' r = -(l.map fun x => x r).sum) → D rs (c' :: cs') = 0 := by
    intro l cs'
    induction l with
    | nil => intro c' _ hc; exact ml_D rs [] c' c' c' cs' 0 0 (fun r hr => by rw [hc r hr]; simp; grind) |>.trans (by grind)
    | cons x l ih =>
      intro c' hl hc
      have h1 := ml_D rs [] (fun r => -(l.map fun x => x r).sum) x c' cs' 1 (-1) fun r hr => by rw [hc r hr]; simp only [List.map_cons, List.sum_cons]; grind
      have h2 := ih (fun r => -(l.map fun x => x r).sum) (fun y hy => hl y (List.mem_cons_of_mem _ hy)) fun r _ => rfl
      have h3 := D_twin rs x [] cs' (hl x List.mem_cons_self)
      simp only [List.nil_append] at h1 h3
      rw [h1, h2, h3]
      grind
  exact key cs cs c (fun x h => h) fun r hr => by have := h r hr; grind
end Go.Proofs.Ytcfpdeeipbekfaa.Kn

/- Determinants of linear forms in numbered unknowns, plain: unknowns taken out by rows, merged, exchanged. -/
namespace Go.Proofs.Ytcfpdeeipbekfaa.Kn
set_option linter.unusedVariables false

theorem lap_sub {α : Type} (r : α) : ∀ (cs : List (α → Rat)) {f g : List (α → Rat) → Rat}, (∀ l, l.Sublist cs → f l = g l) → lap r f cs = lap r g cs
  | [], f, g, h => rfl
  | c :: cs, f, g, h => by
    have := lap_sub r cs (f := fun l => f (c :: l)) (g := fun l => g (c :: l)) fun l hl => h _ (List.Sublist.cons_cons c hl)
    simp only [lap, this, h cs (List.sublist_cons_self c cs)]

abbrev Row := Nat → Rat
def rd (vs : List Nat) : List (Row → Rat) := vs.map fun v r => r v
def Dv (rs : List Row) (vs : List Nat) : Rat := D rs (rd vs)

theorem rd_sub {vs : List Nat} {l : List (Row → Rat)} (h : l.Sublist (rd vs)) : ∃ us, us.Sublist vs ∧ l = rd us := by
  obtain ⟨us, h1, h2⟩ := List.sublist_map_iff.1 h
  exact ⟨us, h1, h2⟩

/-- Rows that read the same at all columns. -/
theorem Dv_congr : ∀ {rs rs' : List Row} {vs : List Nat}, rs.length = rs'.length → (∀ i, ∀ v ∈ vs, (rs.getD i fun _ => 0) v = (rs'.getD i fun _ => 0) v) → Dv rs vs = Dv rs' vs
  | [], [], vs, _, _ => rfl
  | r :: rs, r' :: rs', vs, hl, h => by
    have h0 : ∀ c ∈ rd vs, c r' = 1 * c r + 0 * c r := by
      intro c hc
      obtain ⟨v, hv, rfl⟩ := List.mem_map.1 hc
      have := h 0 v hv
      simp only [List.getD_cons_zero] at this
      show r' v = 1 * r v + 0 * r v
      rw [← this]; grind
    have h1 := lap_row r r r' 1 0 (rd vs) (D rs') h0
    have h2 : lap r (D rs) (rd vs) = lap r (D rs') (rd vs) := lap_sub r _ fun l hl' => by
      obtain ⟨us, hu, rfl⟩ := rd_sub hl'
      exact Dv_congr (by simpa using hl) fun i v hv => by have := h (i + 1) v (hu.subset hv); simpa using this
    show lap r (D rs) (rd vs) = lap r' (D rs') (rd vs)
    rw [h2, h1]
    grind

theorem Dv_rows {rs rs' : List Row} (h : rs.Perm rs') : ∃ e, Sg e ∧ ∀ vs, Dv rs vs = e * Dv rs' vs := by
  obtain ⟨e, he, k⟩ := D_rows h
  exact ⟨e, he, fun vs => k _⟩
theorem Dv_cols {vs vs' : List Nat} (h : vs.Perm vs') : ∃ e, Sg e ∧ ∀ rs, Dv rs vs = e * Dv rs vs' := by
  obtain ⟨e, he, k⟩ := D_cols (h.map fun v (r : Row) => r v)
  exact ⟨e, he, fun rs => k rs []⟩

theorem Dv_head (r s u : Row) (a b : Rat) (rs : List Row) (vs : List Nat) (h : ∀ v ∈ vs, u v = a * r v + b * s v) : Dv (u :: rs) vs = a * Dv (r :: rs) vs + b * Dv (s :: rs) vs :=
  lap_row r s u a b (rd vs) (D rs) fun c hc => by obtain ⟨v, hv, rfl⟩ := List.mem_map.1 hc; exact h v hv

/-- The first row, so many times, added to the others. -/
theorem Dv_add (r : Row) (m : Row → Rat) : ∀ (rs : List Row) (vs : List Nat), Dv (r :: rs.map fun s v => s v + m s * r v) vs = Dv (r :: rs) vs
  | [], vs => rfl
  | s :: rs, vs => by
    have ih : ∀ us, Dv (r :: rs.map fun s v => s v + m s * r v) us = Dv (r :: rs) us := fun us => Dv_add r m rs us
    have e1 : Dv (r :: (fun v => s v + m s * r v) :: rs.map fun s v => s v + m s * r v) vs = - Dv ((fun v => s v + m s * r v) :: r :: rs.map fun s v => s v + m s * r v) vs := D_swap _ _ _ _
    have e2 := Dv_head s r (fun v => s v + m s * r v) 1 (m s) (r :: rs.map fun s v => s v + m s * r v) vs fun v _ => by grind
    have e3 : Dv (r :: r :: rs.map fun s v => s v + m s * r v) vs = 0 := D_same _ _ _
    have e4 : Dv (s :: r :: rs.map fun s v => s v + m s * r v) vs = Dv (s :: r :: rs) vs := lap_sub s _ fun l hl => by obtain ⟨us, _, rfl⟩ := rd_sub hl; exact ih us
    have e5 : Dv (s :: r :: rs) vs = - Dv (r :: s :: rs) vs := D_swap _ _ _ _
    rw [List.map_cons, e1, e2, e3, e4, e5]
    grind

/-- An unknown is taken out by a row. -/
theorem Dv_out {r : Row} {x : Nat} (h : r x ≠ 0) (rs : List Row) (vs : List Nat) : Dv (r :: rs) (x :: vs) = r x * Dv (rs.map fun s v => s v - s x / r x * r v) vs := by
  have h1 := Dv_add r (fun s => - (s x / r x)) rs (x :: vs)
  have h2 : Dv (r :: rs.map fun s v => s v + -(s x / r x) * r v) (x :: vs) = r x * Dv (rs.map fun s v => s v + -(s x / r x) * r v) vs := D_pull r _ (fun r => r x) (rd vs) fun s hs => by
    obtain ⟨u, _, rfl⟩ := List.mem_map.1 hs
    show u x + -(u x / r x) * r x = 0
    grind
  rw [← h1, h2, show (fun (s : Row) v => s v + -(s x / r x) * r v) = fun (s : Row) v => s v - s x / r x * r v from funext fun s => funext fun v => by grind]

theorem Dv_zero {r : Row} {vs : List Nat} (h : ∀ v ∈ vs, r v = 0) (rs : List Row) : Dv (r :: rs) vs = 0 := by
  rw [Dv_head r r r 0 0 rs vs fun v hv => by rw [h v hv]; grind]
  grind
/-- A combination of rows, at some columns. -/
inductive Sp (vs : List Nat) (rs : List Row) : Row → Prop
  | zero {u : Row} : (∀ v ∈ vs, u v = 0) → Sp vs rs u
  | add {u r w : Row} (m : Rat) : Sp vs rs u → r ∈ rs → (∀ v ∈ vs, w v = u v + m * r v) → Sp vs rs w
/-- The first row counts by its sum alone, where the others' sums are 0. -/
theorem Dv_norm {vs : List Nat} {rs : List Row} (h : ∀ r ∈ rs, (vs.map r).sum = 0) {u w : Row} (e : (vs.map u).sum = (vs.map w).sum) : Dv (u :: rs) vs = Dv (w :: rs) vs := by
  cases vs with
  | nil => exact Dv_congr rfl fun i v hv => nomatch hv
  | cons x vs =>
    have key : Dv ((fun v => u v - w v) :: rs) (x :: vs) = 0 := D_sum (α := Row) _ (fun r => r x) (rd vs) fun r hr => by
      have hs : ∀ (r : Row), ((rd vs).map fun y => y r).sum = (vs.map r).sum := fun r => by unfold rd; rw [List.map_map]; rfl
      rw [hs]
      rcases List.mem_cons.1 hr with rfl | hr
      · have hd : ∀ l : List Nat, (l.map fun v => u v - w v).sum = (l.map u).sum - (l.map w).sum := by
          intro l
          induction l with
          | nil => simp; grind
          | cons a l ih => simp only [List.map_cons, List.sum_cons, ih]; grind
        rw [hd]
        simp only [List.map_cons, List.sum_cons] at e
        grind
      · simpa using h r hr
    rw [Dv_head u w _ 1 (-1) rs (x :: vs) fun v _ => by grind] at key
    grind
end Go.Proofs.Ytcfpdeeipbekfaa.Kn

/- Unknowns solved for, and unknowns merged, plain. -/
namespace Go.Proofs.Ytcfpdeeipbekfaa.Kn
set_option linter.unusedVariables false

def unit (b v : Nat) : Rat := if v = b then 1 else 0
/-- A row where the unknowns vs stand for the forms X. -/
def put (vs : List Nat) (X : Nat → Row) (r : Row) : Row := fun b => (vs.map fun v => r v * X v b).sum

theorem sum_add (l : List Nat) (f g : Nat → Rat) : (l.map fun v => f v + g v).sum = (l.map f).sum + (l.map g).sum := by
  induction l with
  | nil => simp; grind
  | cons a l ih => simp only [List.map_cons, List.sum_cons, ih]; grind
theorem sum_smul (l : List Nat) (a : Rat) (f : Nat → Rat) : (l.map fun v => a * f v).sum = a * (l.map f).sum := by
  induction l with
  | nil => simp
  | cons b l ih => simp only [List.map_cons, List.sum_cons, ih]; grind
theorem sum_zero (l : List Nat) (f : Nat → Rat) (h : ∀ v ∈ l, f v = 0) : (l.map f).sum = 0 := by
  induction l with
  | nil => rfl
  | cons b l ih => simp only [List.map_cons, List.sum_cons, ih fun v hv => h v (List.mem_cons_of_mem _ hv), h b List.mem_cons_self]; grind
theorem sum_congr {l : List Nat} {f g : Nat → Rat} (h : ∀ v ∈ l, f v = g v) : (l.map f).sum = (l.map g).sum := by rw [List.map_congr_left h]
theorem sum_perm {l m : List Nat} (h : l.Perm m) (f : Nat → Rat) : (l.map f).sum = (m.map f).sum := by
  induction h with
  | nil => rfl
  | cons a _ ih => simp only [List.map_cons, List.sum_cons, ih]
  | swap a b l => simp only [List.map_cons, List.sum_cons]; grind
  | trans _ _ a b => rw [a, b]

theorem put_cons (x : Nat) (vs : List Nat) (X : Nat → Row) (r : Row) (b : Nat) : put (x :: vs) X r b = r x * X x b + put vs X r b := by simp [put]
theorem put_sub (vs : List Nat) (X : Nat → Row) (r s : Row) (m : Rat) (b : Nat) : put vs X (fun v => s v - m * r v) b = put vs X s b - m * put vs X r b := by
  unfold put
  rw [show (fun v => (s v - m * r v) * X v b) = fun v => s v * X v b + (-m) * (r v * X v b) from funext fun v => by grind, sum_add, sum_smul]
  grind
theorem put_perm {vs us : List Nat} (h : vs.Perm us) (X : Nat → Row) (r : Row) (b : Nat) : put vs X r b = put us X r b := sum_perm h _
theorem put_base {X : Nat → Row} : ∀ {vs : List Nat}, vs.Nodup → (∀ v ∈ vs, ∀ b ∈ vs, X v b = unit v b) → ∀ (r : Row), ∀ b ∈ vs, put vs X r b = r b := by
  intro vs
  have key : ∀ (l : List Nat), l.Nodup → ∀ (r : Row) b, (∀ v ∈ l, X v b = unit v b) → put l X r b = if b ∈ l then r b else 0 := by
    intro l
    induction l with
    | nil => intro _ r b _; simp [put]
    | cons a l ih =>
      intro hn r b h
      rw [put_cons, ih (List.nodup_cons.1 hn).2 r b fun v hv => h v (List.mem_cons_of_mem _ hv), h a List.mem_cons_self, unit]
      by_cases hb : b = a
      · subst hb; rw [if_pos rfl, if_neg (List.nodup_cons.1 hn).1, if_pos List.mem_cons_self]; grind
      · rw [if_neg hb]
        by_cases hl : b ∈ l
        · rw [if_pos hl, if_pos (List.mem_cons_of_mem _ hl)]; grind
        · rw [if_neg hl, if_neg (by simp [hb, hl])]; grind
  intro hn h r b hb
  rw [key vs hn r b fun v hv => h v hv b hb, if_pos hb]

def prd (l : List Rat) : Rat := l.foldr (· * ·) 1
/-- Unknowns that rows tell, one after another, are solved for. -/
theorem Dv_solve (base : List Nat) (X : Nat → Row) (hbn : base.Nodup) (hb : ∀ v ∈ base, ∀ b ∈ base, X v b = unit v b) : ∀ (R : List (Row × Nat)) (rest : List Row) (vs : List Nat), vs.Perm (R.map (·.2) ++ base) →
    R.Pairwise (fun a b => a.1 b.2 = 0) → (∀ a ∈ R, a.1 a.2 ≠ 0) → (∀ a ∈ R, ∀ b ∈ base, put vs X a.1 b = 0) →
    ∃ e, Sg e ∧ Dv (R.map (·.1) ++ rest) vs = e * prd (R.map fun a => a.1 a.2) * Dv (rest.map (put vs X)) base
  | [], rest, vs, hv, _, _, _ => by
    obtain ⟨e, he, k⟩ := Dv_cols hv
    refine ⟨e, he, ?_⟩
    rw [show ([] : List (Row × Nat)).map (·.1) ++ rest = rest from rfl, k]
    rw [show Dv (rest.map (put vs X)) base = Dv rest base from Dv_congr (by simp) fun i b hb' => by
      simp only [List.map_nil, List.nil_append] at hv
      by_cases hi : i < rest.length
      · simp only [List.getD_eq_getElem?_getD, List.getElem?_map, List.getElem?_eq_getElem hi, Option.map_some, Option.getD_some]
        rw [put_perm hv, put_base hbn hb _ b hb']
      · simp [List.getD_eq_getElem?_getD, List.getElem?_eq_none (Nat.le_of_not_lt hi)]]
    simp [prd]
  | (r, x) :: R, rest, vs, hv, hp, hn, hz => by
    have hrx : r x ≠ 0 := hn _ List.mem_cons_self
    obtain ⟨hp1, hp2⟩ := List.pairwise_cons.1 hp
    obtain ⟨e, he, k⟩ := Dv_cols hv
    let f : Row → Row := fun s v => s v - s x / r x * r v
    let us := R.map (·.2) ++ base
    have hput : ∀ (s : Row) b, b ∈ base → put us X (f s) b = put vs X s b := by
      intro s b hb'
      have h1 := put_sub vs X r s (s x / r x) b
      have h2 := put_perm hv X (f s) b
      have h3 : put (x :: us) X (f s) b = f s x * X x b + put us X (f s) b := put_cons _ _ _ _ _
      have h4 : f s x = 0 := by show s x - s x / r x * r x = 0; grind
      have h5 := hz (r, x) List.mem_cons_self b hb'
      simp only [List.map_cons, List.cons_append] at h2
      have h6 : put vs X (f s) b = put us X (f s) b := by rw [h2]; show put (x :: us) X (f s) b = _; rw [h3, h4]; grind
      rw [← h6]
      show put vs X (fun v => s v - s x / r x * r v) b = _
      rw [h1, h5]
      grind
    have hxy : ∀ a ∈ R, r a.2 = 0 := fun a ha => hp1 a ha
    obtain ⟨e', he', k'⟩ := Dv_solve base X hbn hb (R.map fun a => (f a.1, a.2)) (rest.map f) us (by show us.Perm _; simp [us, Function.comp_def])
      (by
        refine List.pairwise_map.2 (hp2.imp_of_mem ?_)
        intro a b _ hb' hab
        show a.1 b.2 - a.1 x / r x * r b.2 = 0
        rw [hab, hxy b hb']; grind)
      (by
        intro a ha
        obtain ⟨c, hc, rfl⟩ := List.mem_map.1 ha
        show c.1 c.2 - c.1 x / r x * r c.2 ≠ 0
        rw [hxy c hc]
        have := hn c (List.mem_cons_of_mem _ hc)
        grind)
      (by
        intro a ha b hb'
        obtain ⟨c, hc, rfl⟩ := List.mem_map.1 ha
        show put us X (f c.1) b = 0
        rw [hput _ b hb']
        exact hz c (List.mem_cons_of_mem _ hc) b hb')
    refine ⟨e * e', he.mul he', ?_⟩
    rw [k]
    show e * Dv (r :: (R.map (·.1) ++ rest)) (x :: us) = _
    rw [Dv_out hrx, List.map_append, List.map_map]
    have h1 : (R.map ((fun s v => s v - s x / r x * r v) ∘ fun a => a.1)) = (R.map fun a => (f a.1, a.2)).map (·.1) := by rw [List.map_map]; rfl
    rw [h1]
    show e * (r x * Dv ((R.map fun a => (f a.1, a.2)).map (·.1) ++ rest.map f) us) = _
    rw [k']
    have h2 : prd ((R.map fun a => (f a.1, a.2)).map fun a => a.1 a.2) = prd (R.map fun a => a.1 a.2) := by
      rw [List.map_map]
      congr 1
      refine List.map_congr_left fun a ha => ?_
      show a.1 a.2 - a.1 x / r x * r a.2 = a.1 a.2
      rw [hxy a ha]; grind
    have h3 : Dv ((rest.map f).map (put us X)) base = Dv (rest.map (put vs X)) base := Dv_congr (by simp) fun i b hb' => by
      by_cases hi : i < rest.length
      · simp only [List.map_map, List.getD_eq_getElem?_getD, List.getElem?_map, List.getElem?_eq_getElem hi, Option.map_some, Option.getD_some, Function.comp]
        exact hput _ b hb'
      · simp [List.getD_eq_getElem?_getD, List.getElem?_eq_none (Nat.le_of_not_lt hi)]
    rw [h2, h3]
    simp only [List.map_cons, prd, List.foldr_cons]
    grind
  termination_by R => R.length
  decreasing_by simp
end Go.Proofs.Ytcfpdeeipbekfaa.Kn
