/- Pieces of a diagram, and a piece as seen from a crossing: plain mathematics. -/
import Derived.Test.YtgjmjbgicfkojaaMDiag
namespace Go.Proofs.Ytgjmjbgicfkojaa.Kn

section
variable (nb : Nat → List Nat) (seen : List Nat)
def addN : List Nat → List Nat → List Nat
  | l, [] => l
  | l, k :: ks => addN (if k ∈ seen ∨ k ∈ l then l else l ++ [k]) ks
def grow : Nat → Nat → List Nat → List Nat
  | 0, _, l => l
  | k + 1, i, l => if i < l.length then grow k (i + 1) (addN seen l (nb (l.getD i 0))) else l
inductive Conn : Nat → Nat → Prop
  | refl (c : Nat) : Conn c c
  | step {c d e : Nat} : Conn c d → e ∈ nb d → Conn c e
variable {nb seen}
theorem Conn.trans {c d e : Nat} (h : Conn nb c d) (k : Conn nb d e) : Conn nb c e := by
  induction k with
  | refl => exact h
  | step _ he ih => exact .step ih he
theorem Conn.symm (hs : ∀ x y, y ∈ nb x → x ∈ nb y) {c d : Nat} (h : Conn nb c d) : Conn nb d c := by
  induction h with
  | refl => exact .refl _
  | step _ he ih => exact (Conn.step (.refl _) (hs _ _ he)).trans ih
theorem mem_one {l : List Nat} {k x : Nat} : x ∈ (if k ∈ seen ∨ k ∈ l then l else l ++ [k]) ↔ x ∈ l ∨ (x = k ∧ k ∉ seen) := by
  split
  · next h =>
    constructor
    · exact .inl
    · rintro (h1 | ⟨rfl, h2⟩)
      · exact h1
      · exact h.resolve_left h2
  · next h =>
    rw [List.mem_append, List.mem_singleton]
    constructor
    · rintro (h1 | rfl)
      · exact .inl h1
      · exact .inr ⟨rfl, fun e => h (.inl e)⟩
    · rintro (h1 | ⟨rfl, _⟩)
      · exact .inl h1
      · exact .inr rfl
theorem mem_addN : ∀ {ks l : List Nat} {x : Nat}, x ∈ addN seen l ks ↔ x ∈ l ∨ (x ∈ ks ∧ x ∉ seen)
  | [], l, x => by rw [addN]; simp
  | k :: ks, l, x => by
    rw [addN, mem_addN, mem_one, List.mem_cons]
    constructor
    · rintro ((h | ⟨rfl, h⟩) | ⟨h, h2⟩)
      · exact .inl h
      · exact .inr ⟨.inl rfl, h⟩
      · exact .inr ⟨.inr h, h2⟩
    · rintro (h | ⟨rfl | h, h2⟩)
      · exact .inl (.inl h)
      · exact .inl (.inr ⟨rfl, h2⟩)
      · exact .inr ⟨h, h2⟩
theorem one_pre (l : List Nat) (k : Nat) : l <+: (if k ∈ seen ∨ k ∈ l then l else l ++ [k]) := by
  split
  · exact List.prefix_refl _
  · exact List.prefix_append _ _
theorem addN_pre : ∀ (ks l : List Nat), l <+: addN seen l ks
  | [], l => by rw [addN]; exact List.prefix_refl _
  | k :: ks, l => by rw [addN]; exact (one_pre l k).trans (addN_pre ks _)
theorem one_nodup {l : List Nat} (h : l.Nodup) (k : Nat) : (if k ∈ seen ∨ k ∈ l then l else l ++ [k]).Nodup := by
  split
  · exact h
  · next c => exact nodup_snoc h fun e => c (.inr e)
theorem addN_nodup : ∀ (ks : List Nat) {l : List Nat}, l.Nodup → (addN seen l ks).Nodup
  | [], l, h => by rw [addN]; exact h
  | k :: ks, l, h => by rw [addN]; exact addN_nodup ks (one_nodup h k)
theorem grow_pre : ∀ (k i : Nat) (l : List Nat), l <+: grow nb seen k i l
  | 0, _, l => by rw [grow]; exact List.prefix_refl _
  | k + 1, i, l => by
    rw [grow]; split
    · exact (addN_pre _ _).trans (grow_pre k _ _)
    · exact List.prefix_refl _
theorem grow_nodup : ∀ (k i : Nat) {l : List Nat}, l.Nodup → (grow nb seen k i l).Nodup
  | 0, _, l, h => by rw [grow]; exact h
  | k + 1, i, l, h => by
    rw [grow]; split
    · exact grow_nodup k _ (addN_nodup _ h)
    · exact h
theorem getD_mem {l : List Nat} {i : Nat} (h : i < l.length) : l.getD i 0 ∈ l := by
  rw [List.getD_eq_getElem?_getD, List.getElem?_eq_getElem h]; exact List.getElem_mem h
theorem grow_all {P : Nat → Prop} (hP : ∀ x, P x → ∀ y ∈ nb x, y ∉ seen → P y) : ∀ (k i : Nat) {l : List Nat}, (∀ x ∈ l, P x) → ∀ x ∈ grow nb seen k i l, P x
  | 0, _, l, h => by rw [grow]; exact h
  | k + 1, i, l, h => by
    rw [grow]; split
    · next c =>
      refine grow_all hP k _ fun x hx => ?_
      rcases mem_addN.1 hx with h1 | ⟨h1, h2⟩
      · exact h x h1
      · exact hP _ (h _ (getD_mem c)) x h1 h2
    · exact h
theorem grow_closed {m : List Nat} (hm : ∀ x ∈ m, ∀ y ∈ nb x, y ∈ m) : ∀ (k i : Nat) {l : List Nat}, l.Nodup → (∀ x ∈ l, x ∈ m) → (∀ j, j < i → j < l.length → ∀ y ∈ nb (l.getD j 0), y ∈ seen ∨ y ∈ l) → m.length + 1 ≤ k + i →
    ∀ x ∈ grow nb seen k i l, ∀ y ∈ nb x, y ∈ seen ∨ y ∈ grow nb seen k i l
  | 0, i, l, hn, hl, hc, hk, x, hx, y, hy => by
    rw [grow] at hx ⊢
    have := nodup_le hn hl
    obtain ⟨j, hj, rfl⟩ := List.getElem_of_mem hx
    refine hc j (by omega) hj y ?_
    rwa [List.getD_eq_getElem?_getD, List.getElem?_eq_getElem hj]
  | k + 1, i, l, hn, hl, hc, hk, x, hx, y, hy => by
    rw [grow] at hx ⊢
    by_cases c : i < l.length
    · rw [if_pos c] at hx ⊢
      refine grow_closed hm k (i + 1) (addN_nodup _ hn) (fun x hx => ?_) (fun j hj hjl y hy => ?_) (by omega) x hx y hy
      · rcases mem_addN.1 hx with h1 | ⟨h1, h2⟩
        · exact hl x h1
        · exact hm _ (hl _ (getD_mem c)) x h1
      · have hjl' : j < l.length := by omega
        have e : (addN seen l (nb (l.getD i 0))).getD j 0 = l.getD j 0 := by
          obtain ⟨t, ht⟩ := addN_pre (seen := seen) (nb (l.getD i 0)) l
          rw [← ht, List.getD_eq_getElem?_getD, List.getElem?_append_left hjl', List.getD_eq_getElem?_getD]
        rw [e] at hy
        by_cases d : y ∈ seen
        · exact .inl d
        · right
          rw [mem_addN]
          rcases Nat.lt_or_ge j i with c1 | c1
          · exact .inl ((hc j c1 hjl' y hy).resolve_left d)
          · obtain rfl : j = i := by omega
            exact .inr ⟨hy, d⟩
    · rw [if_neg c] at hx ⊢
      obtain ⟨j, hj, rfl⟩ := List.getElem_of_mem hx
      refine hc j (by omega) hj y ?_
      rwa [List.getD_eq_getElem?_getD, List.getElem?_eq_getElem hj]
/- a member that a walk finds, with no one seen: just those that hang together with the first -/
theorem grow_conn {m : List Nat} (hm : ∀ x ∈ m, ∀ y ∈ nb x, y ∈ m) {c : Nat} (hc : c ∈ m) (hs : ∀ x y, y ∈ nb x → x ∈ nb y) (hseen : ∀ x ∈ seen, ∀ y ∈ nb x, y ∈ seen) (hcs : c ∉ seen) {k : Nat} (hk : m.length + 1 ≤ k) {x : Nat} :
    x ∈ grow nb seen k 0 [c] ↔ Conn nb c x := by
  constructor
  · intro h
    refine grow_all (P := Conn nb c) (fun x hx y hy _ => .step hx hy) k 0 (l := [c]) (fun x hx => ?_) x h
    rw [List.mem_singleton] at hx; subst hx; exact .refl _
  · intro h
    have hcl := grow_closed (seen := seen) hm k 0 (l := [c]) (by simp) (fun x hx => by rw [List.mem_singleton] at hx; subst hx; exact hc) (fun j hj => by omega) (by omega)
    have hns : ∀ x ∈ grow nb seen k 0 [c], x ∉ seen := grow_all (P := fun x => x ∉ seen) (fun _ _ _ _ h => h) k 0 (l := [c]) (fun x hx => by rw [List.mem_singleton] at hx; subst hx; exact hcs)
    induction h with
    | refl => exact (grow_pre k 0 [c]).subset (by simp)
    | step hd he ih =>
      rcases hcl _ ih _ he with h1 | h1
      · exact absurd (hseen _ h1 _ (hs _ _ he)) (hns _ ih)
      · exact h1
end

/- numbers in order -/
def ins (x : Nat) : List Nat → List Nat
  | [] => [x]
  | y :: ys => if x ≤ y then x :: y :: ys else y :: ins x ys
def isort : List Nat → List Nat
  | [] => []
  | x :: xs => ins x (isort xs)
theorem ins_perm (x : Nat) : ∀ l, (ins x l).Perm (x :: l)
  | [] => .refl _
  | y :: ys => by
    rw [ins]; split
    · exact .refl _
    · exact ((ins_perm x ys).cons y).trans (.swap _ _ _)
theorem isort_perm : ∀ l, (isort l).Perm l
  | [] => .refl _
  | x :: xs => by rw [isort]; exact (ins_perm x _).trans ((isort_perm xs).cons x)
theorem ins_sorted (x : Nat) : ∀ {l : List Nat}, l.Pairwise (· ≤ ·) → (ins x l).Pairwise (· ≤ ·)
  | [], _ => by rw [ins]; simp
  | y :: ys, h => by
    rw [List.pairwise_cons] at h
    rw [ins]; split
    · next c =>
      rw [List.pairwise_cons, List.pairwise_cons]
      refine ⟨fun z hz => ?_, h⟩
      rcases List.mem_cons.1 hz with rfl | hz
      · exact c
      · exact Nat.le_trans c (h.1 z hz)
    · next c =>
      rw [List.pairwise_cons]
      refine ⟨fun z hz => ?_, ins_sorted x h.2⟩
      rcases List.mem_cons.1 ((ins_perm x ys).mem_iff.1 hz) with rfl | hz
      · omega
      · exact h.1 z hz
theorem isort_sorted : ∀ l, (isort l).Pairwise (· ≤ ·)
  | [] => by rw [isort]; simp
  | x :: xs => by rw [isort]; exact ins_sorted x (isort_sorted xs)
theorem isort_eq {l l' : List Nat} (hp : l'.Perm l) (hs : l'.Pairwise (· ≤ ·)) : l' = isort l :=
  (hp.trans (isort_perm l).symm).eq_of_pairwise (le := fun a b => a ≤ b) (fun _ _ _ _ h1 h2 => Nat.le_antisymm h1 h2) hs (isort_sorted l)

/- pieces -/
def nbs (X : List Cr) (c : Nat) : List Nat := [(other X (c, 0)).1, (other X (c, 1)).1, (other X (c, 2)).1, (other X (c, 3)).1]
def pieceOf (X : List Cr) (seen : List Nat) (c : Nat) : List Nat := grow (nbs X) seen (X.length + 1) 0 [c]
def piecesFrom (X : List Cr) : List Nat → List Nat → List (List Nat)
  | _, [] => []
  | seen, c :: cs => if c ∈ seen then piecesFrom X seen cs else isort (pieceOf X seen c) :: piecesFrom X (seen ++ pieceOf X seen c) cs
def piecesL (X : List Cr) : List (List Nat) := piecesFrom X [] (List.range X.length)
theorem piecesFrom_nil (X : List Cr) (seen : List Nat) : piecesFrom X seen [] = [] := by rw [piecesFrom]
theorem piecesFrom_seen {X : List Cr} {seen cs : List Nat} {c : Nat} (h : c ∈ seen) : piecesFrom X seen (c :: cs) = piecesFrom X seen cs := by rw [piecesFrom, if_pos h]
theorem piecesFrom_new {X : List Cr} {seen cs : List Nat} {c : Nat} (h : c ∉ seen) : piecesFrom X seen (c :: cs) = isort (pieceOf X seen c) :: piecesFrom X (seen ++ pieceOf X seen c) cs := by rw [piecesFrom, if_neg h]

section
variable {X : List Cr}
theorem mem_nbs {c e : Nat} : e ∈ nbs X c ↔ ∃ s, s < 4 ∧ e = (other X (c, s)).1 := by
  unfold nbs
  simp only [List.mem_cons, List.not_mem_nil, or_false]
  constructor
  · rintro (h | h | h | h)
    · exact ⟨0, by omega, h⟩
    · exact ⟨1, by omega, h⟩
    · exact ⟨2, by omega, h⟩
    · exact ⟨3, by omega, h⟩
  · rintro ⟨s, hs, h⟩
    match s, hs with
    | 0, _ => exact .inl h
    | 1, _ => exact .inr (.inl h)
    | 2, _ => exact .inr (.inr (.inl h))
    | 3, _ => exact .inr (.inr (.inr h))
theorem Ok.nbs_lt (h : Ok X) {c e : Nat} (hc : c < X.length) (he : e ∈ nbs X c) : e < X.length := by
  obtain ⟨s, hs, rfl⟩ := mem_nbs.1 he
  exact (h.isPl_other ⟨hc, hs⟩).1
/- within the diagram one hangs with the other just if the other with the one -/
theorem Ok.nbs_symm (h : Ok X) {c e : Nat} (hc : c < X.length) (he : e ∈ nbs X c) : c ∈ nbs X e := by
  obtain ⟨s, hs, rfl⟩ := mem_nbs.1 he
  have hp : isPl X (c, s) := ⟨hc, hs⟩
  refine mem_nbs.2 ⟨(other X (c, s)).2, (h.isPl_other hp).2, ?_⟩
  have := h.other_other hp
  rw [show ((other X (c, s)).1, (other X (c, s)).2) = other X (c, s) from rfl, this]
/- neighbours, of crossings alone -/
def nbc (X : List Cr) (c : Nat) : List Nat := if c < X.length then nbs X c else []
theorem Ok.nbc_symm (h : Ok X) : ∀ x y, y ∈ nbc X x → x ∈ nbc X y := by
  intro x y hy
  unfold nbc at hy ⊢
  by_cases c : x < X.length
  · rw [if_pos c] at hy
    rw [if_pos (h.nbs_lt c hy)]
    exact h.nbs_symm c hy
  · rw [if_neg c] at hy; cases hy
theorem grow_nbc (h : Ok X) {seen : List Nat} : ∀ (k i : Nat) {l : List Nat}, (∀ x ∈ l, x < X.length) → grow (nbs X) seen k i l = grow (nbc X) seen k i l
  | 0, _, l, _ => by rw [grow, grow]
  | k + 1, i, l, hl => by
    rw [grow, grow]
    by_cases c : i < l.length
    · have hx : l.getD i 0 < X.length := hl _ (getD_mem c)
      have e : nbc X (l.getD i 0) = nbs X (l.getD i 0) := by unfold nbc; rw [if_pos hx]
      rw [if_pos c, if_pos c, e]
      refine grow_nbc h k _ fun x hx' => ?_
      rcases mem_addN.1 hx' with h1 | ⟨h1, _⟩
      · exact hl x h1
      · exact h.nbs_lt hx h1
    · rw [if_neg c, if_neg c]
abbrev Con (X : List Cr) : Nat → Nat → Prop := Conn (nbc X)
theorem Ok.con_lt (h : Ok X) {c d : Nat} (hc : c < X.length) (k : Con X c d) : d < X.length := by
  induction k with
  | refl => exact hc
  | step hd he ih =>
    unfold nbc at he
    rw [if_pos ih] at he
    exact h.nbs_lt ih he
theorem Ok.mem_piece (h : Ok X) {seen : List Nat} {c : Nat} (hc : c < X.length) (hseen : ∀ x ∈ seen, ∀ y ∈ nbc X x, y ∈ seen) (hcs : c ∉ seen) {x : Nat} : x ∈ pieceOf X seen c ↔ Con X c x := by
  unfold pieceOf
  rw [grow_nbc h _ _ (by intro x hx; rw [List.mem_singleton] at hx; subst hx; exact hc)]
  refine grow_conn (m := List.range X.length) (fun x hx y hy => ?_) (List.mem_range.2 hc) h.nbc_symm hseen hcs (by simp)
  rw [List.mem_range] at hx ⊢
  unfold nbc at hy
  rw [if_pos hx] at hy
  exact h.nbs_lt hx hy
theorem pieceOf_nodup (X : List Cr) (seen : List Nat) (c : Nat) : (pieceOf X seen c).Nodup := grow_nodup _ _ (by simp)
/- the pieces: each sorted and all that hangs together with any of it; together each crossing once -/
structure IsPiece (X : List Cr) (l : List Nat) : Prop where
  ne : l ≠ []
  nodup : l.Nodup
  con : ∀ c ∈ l, c < X.length ∧ ∀ x, x ∈ l ↔ Con X c x
theorem Ok.piece (h : Ok X) {seen : List Nat} {c : Nat} (hc : c < X.length) (hseen : ∀ x ∈ seen, ∀ y ∈ nbc X x, y ∈ seen) (hcs : c ∉ seen) : IsPiece X (pieceOf X seen c) := by
  have hm := fun x => h.mem_piece hc hseen hcs (x := x)
  refine ⟨List.ne_nil_of_mem ((hm c).2 (.refl _)), pieceOf_nodup X seen c, fun d hd => ?_⟩
  have hcd := (hm d).1 hd
  refine ⟨h.con_lt hc hcd, fun x => ?_⟩
  rw [hm]
  exact ⟨fun k => (hcd.symm h.nbc_symm).trans k, fun k => hcd.trans k⟩
theorem IsPiece.perm {l l' : List Nat} (h : IsPiece X l) (hp : l'.Perm l) : IsPiece X l' :=
  ⟨fun e => h.ne (by subst e; exact hp.symm.eq_nil), hp.nodup_iff.2 h.nodup, fun c hc => ⟨(h.con c (hp.mem_iff.1 hc)).1, fun x => hp.mem_iff.trans ((h.con c (hp.mem_iff.1 hc)).2 x)⟩⟩
theorem Ok.pieces (h : Ok X) : ∀ (cs : List Nat) {seen : List Nat}, (∀ c ∈ cs, c < X.length) → (∀ x ∈ seen, ∀ y ∈ nbc X x, y ∈ seen) → seen.Nodup →
    (∀ l ∈ piecesFrom X seen cs, IsPiece X l) ∧ (seen ++ (piecesFrom X seen cs).flatten).Nodup ∧ (∀ x, x ∈ seen ∨ x ∈ cs → x ∈ seen ++ (piecesFrom X seen cs).flatten) ∧ ∀ x, x ∈ (piecesFrom X seen cs).flatten → x < X.length
  | [], seen, _, _, hn => by
    rw [piecesFrom_nil]
    simpa using hn
  | c :: cs, seen, hc, hs, hn => by
    by_cases d : c ∈ seen
    · rw [piecesFrom_seen d]
      obtain ⟨h1, h2, h3, h4⟩ := h.pieces cs (fun x hx => hc x (by simp [hx])) hs hn
      refine ⟨h1, h2, fun x hx => h3 x ?_, h4⟩
      rcases hx with hx | hx
      · exact .inl hx
      · rcases List.mem_cons.1 hx with rfl | hx
        · exact .inl d
        · exact .inr hx
    · have hcl : c < X.length := hc c (by simp)
      have hp := h.piece hcl hs d
      have hm := fun x => h.mem_piece hcl hs d (x := x)
      have hdis : ∀ x ∈ pieceOf X seen c, x ∉ seen := fun x hx hxs => by
        have : ∀ y, Con X x y → y ∈ seen := fun y hy => by
          induction hy with
          | refl => exact hxs
          | step _ he ih => exact hs _ ih _ he
        exact d (this c (((hm x).1 hx).symm h.nbc_symm))
      have hn' : (seen ++ pieceOf X seen c).Nodup := by
        rw [List.nodup_append]
        exact ⟨hn, hp.nodup, fun a ha b hb e => hdis b hb (e ▸ ha)⟩
      have hs' : ∀ x ∈ seen ++ pieceOf X seen c, ∀ y ∈ nbc X x, y ∈ seen ++ pieceOf X seen c := fun x hx y hy => by
        rw [List.mem_append] at hx ⊢
        rcases hx with hx | hx
        · exact .inl (hs x hx y hy)
        · exact .inr ((hm y).2 (.step ((hm x).1 hx) hy))
      obtain ⟨h1, h2, h3, h4⟩ := h.pieces cs (fun x hx => hc x (by simp [hx])) hs' hn'
      rw [piecesFrom_new d]
      have hperm : (seen ++ (isort (pieceOf X seen c) :: piecesFrom X (seen ++ pieceOf X seen c) cs).flatten).Perm (seen ++ pieceOf X seen c ++ (piecesFrom X (seen ++ pieceOf X seen c) cs).flatten) := by
        rw [List.flatten_cons, List.append_assoc]
        exact List.Perm.append_left _ (List.Perm.append_right _ (isort_perm _))
      refine ⟨fun l hl => ?_, hperm.nodup_iff.2 h2, fun x hx => hperm.mem_iff.2 (h3 x ?_), fun x hx => ?_⟩
      · rcases List.mem_cons.1 hl with rfl | hl
        · exact hp.perm (isort_perm _)
        · exact h1 l hl
      · rcases hx with hx | hx
        · exact .inl (by simp [hx])
        · rcases List.mem_cons.1 hx with rfl | hx
          · exact .inl (List.mem_append.2 (.inr ((hm _).2 (.refl _))))
          · exact .inr hx
      · rw [List.flatten_cons, List.mem_append] at hx
        rcases hx with hx | hx
        · exact (hp.con x ((isort_perm _).mem_iff.1 hx)).1
        · exact h4 x hx
theorem Ok.pieces_perm (h : Ok X) : (piecesL X).flatten.Perm (List.range X.length) := by
  obtain ⟨_, h2, h3, h4⟩ := h.pieces (List.range X.length) (seen := []) (fun c hc => List.mem_range.1 hc) (fun x hx => by cases hx) (by simp)
  rw [List.nil_append] at h2
  refine (List.perm_ext_iff_of_nodup h2 List.nodup_range).2 fun x => ⟨fun hx => List.mem_range.2 (h4 x hx), fun hx => ?_⟩
  have := h3 x (.inr hx)
  rwa [List.nil_append] at this
theorem Ok.pieces_is (h : Ok X) : ∀ l ∈ piecesL X, IsPiece X l :=
  (h.pieces (List.range X.length) (seen := []) (fun c hc => List.mem_range.1 hc) (fun x hx => by cases hx) (by simp)).1
end

/- two more faces than crossings in each piece -/
def pieceAt (X : List Cr) (c : Nat) : Nat := (piecesL X).findIdx fun l => l.contains c
def facesAt (X : List Cr) (i : Nat) : Nat := (facesL X).countP fun f => decide (pieceAt X (head X (f.headD (0, false))).1 = i)
def planarB (X : List Cr) : Bool := (List.range (piecesL X).length).all fun i => decide (facesAt X i = ((piecesL X).getD i []).length + 2)
theorem trefoil_planar : planarB trefoil = true := by decide
end Go.Proofs.Ytgjmjbgicfkojaa.Kn
