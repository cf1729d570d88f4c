/- The code of a view; views with the same codes have the same numbers: plain mathematics. -/
import Derived.Test.YtgjmjbgicfkojaaMCanon
namespace Go.Proofs.Ytgjmjbgicfkojaa.Kn

/- what a crossing adds to the code, by places in a list -/
def chunk (X : List Cr) (l : List Nat) (c : Nat) : List Int :=
  [plusI (cr X c), (l.idxOf (other X (c, 0)).1 : Nat), ((other X (c, 0)).2 : Nat), (l.idxOf (other X (c, 1)).1 : Nat), ((other X (c, 1)).2 : Nat),
   (l.idxOf (other X (c, 2)).1 : Nat), ((other X (c, 2)).2 : Nat), (l.idxOf (other X (c, 3)).1 : Nat), ((other X (c, 3)).2 : Nat)]
theorem addN_one (l ks : List Nat) (k : Nat) : addN [] l (k :: ks) = addN [] (if k ∈ l then l else l ++ [k]) ks := by
  rw [addN]
  by_cases c : k ∈ l
  · rw [if_pos (.inr c), if_pos c]
  · rw [if_neg (by simpa using c), if_neg c]
theorem seeC_fst (X : List Cr) (st : Vw) (c : Nat) : (seeC X st c).1 = addN [] st.1 (nbs X c) := by
  unfold nbs
  rw [addN_one, addN_one, addN_one, addN_one, addN]
  rfl
theorem seeG_fst (X : List Cr) : ∀ (k i : Nat) (st : Vw), (seeG X k i st).1 = grow (nbs X) [] k i st.1
  | 0, _, _ => by rw [seeG, grow]
  | k + 1, i, st => by
    rw [seeG, grow]
    split
    · rw [seeG_fst, seeC_fst]
    · rfl
theorem see_fst (X : List Cr) (c : Nat) : (see X c).1 = pieceOf X [] c := by unfold see pieceOf; rw [seeG_fst]
/- the number told at a step is the place in any longer list -/
theorem idx_step {l m : List Nat} {k : Nat} (h : (if k ∈ l then l else l ++ [k]) <+: m) : l.idxOf k = m.idxOf k := by
  obtain ⟨t, rfl⟩ := h
  by_cases c : k ∈ l
  · rw [if_pos c, List.idxOf_append, if_pos c]
  · rw [if_neg c, List.idxOf_append, if_pos (by simp), List.idxOf_append, if_neg c, List.idxOf_eq_length c]; simp
theorem seeC_snd (X : List Cr) (st : Vw) (c : Nat) {m : List Nat} (h : (seeC X st c).1 <+: m) : (seeC X st c).2 = st.2 ++ chunk X m c := by
  have p4 : ∀ (l : List Nat) (k : Nat), l <+: (if k ∈ l then l else l ++ [k]) := fun l k => by
    split
    · exact List.prefix_refl _
    · exact List.prefix_append _ _
  unfold seeC at h ⊢
  simp only [seeSides, seePl] at h ⊢
  have h3 := (p4 _ _).trans h
  have h2 := (p4 _ _).trans h3
  have h1 := (p4 _ _).trans h2
  rw [idx_step h, idx_step h3, idx_step h2, idx_step h1]
  unfold chunk
  simp
theorem seeG_code (X : List Cr) : ∀ (k i : Nat) (st : Vw), i ≤ st.1.length → st.2 = (st.1.take i).flatMap (chunk X (seeG X k i st).1) →
    (seeG X k i st).2 = ((seeG X k i st).1.take (min (i + k) (seeG X k i st).1.length)).flatMap (chunk X (seeG X k i st).1)
  | 0, i, st, hi, h => by
    rw [seeG] at h ⊢
    rw [h, show min (i + 0) st.1.length = i by omega]
  | k + 1, i, st, hi, h => by
    rw [seeG] at h ⊢
    by_cases c : i < st.1.length
    · rw [if_pos c] at h ⊢
      have hp : (seeC X st (st.1.getD i 0)).1 <+: (seeG X k (i + 1) (seeC X st (st.1.getD i 0))).1 := by rw [seeG_fst]; exact grow_pre _ _ _
      have hq : st.1 <+: (seeC X st (st.1.getD i 0)).1 := by rw [seeC_fst]; exact addN_pre _ _
      have := seeG_code X k (i + 1) (seeC X st (st.1.getD i 0)) (by have := hq.length_le; omega) (by
        rw [seeC_snd X st _ hp, h]
        obtain ⟨t, ht⟩ := hq
        rw [← ht, List.take_append_of_le_length (by omega), List.take_succ_eq_append_getElem c, List.flatMap_append]
        congr 1
        rw [List.getD_eq_getElem?_getD, List.getElem?_eq_getElem c]
        simp)
      rw [this, show i + 1 + k = i + (k + 1) by omega]
    · rw [if_neg c] at h ⊢
      rw [h, show min (i + (k + 1)) st.1.length = i by omega]
theorem chunk_len (X : List Cr) (l : List Nat) (c : Nat) : (chunk X l c).length = 9 := rfl
section
variable {X : List Cr}
theorem Ok.see_piece (h : Ok X) {c : Nat} (hc : c < X.length) : IsPiece X (see X c).1 := by
  rw [see_fst]
  exact h.piece hc (fun x hx => by cases hx) (by simp)
theorem Ok.mem_see (h : Ok X) {c x : Nat} (hc : c < X.length) : x ∈ (see X c).1 ↔ Con X c x := by
  rw [see_fst]
  exact h.mem_piece hc (fun x hx => by cases hx) (by simp)
theorem IsPiece.le {l : List Nat} (h : IsPiece X l) : l.length ≤ X.length := by
  have := nodup_le h.nodup (m := List.range X.length) (fun x hx => List.mem_range.2 (h.con x hx).1)
  simpa using this
theorem Ok.see_code (h : Ok X) {c : Nat} (hc : c < X.length) : (see X c).2 = (see X c).1.flatMap (chunk X (see X c).1) := by
  have hl := (h.see_piece hc).le
  have := seeG_code X (X.length + 1) 0 ([c], []) (by simp) rfl
  unfold see at hl ⊢
  rw [this, List.take_of_length_le (by omega)]
theorem flatMap_len {l : List Nat} {f : Nat → List Int} (hf : ∀ c, (f c).length = 9) : (l.flatMap f).length = 9 * l.length := by
  induction l with
  | nil => rfl
  | cons x xs ih => rw [List.flatMap_cons, List.length_append, ih, hf, List.length_cons]; omega
theorem Ok.code_len (h : Ok X) {c : Nat} (hc : c < X.length) : (see X c).2.length = 9 * (see X c).1.length := by
  rw [h.see_code hc, flatMap_len (chunk_len X _)]
end
/- parts of one length: what is joined tells them -/
theorem flatMap_eq {f g : Nat → List Int} (hf : ∀ c, (f c).length = 9) (hg : ∀ c, (g c).length = 9) : ∀ {l m : List Nat}, l.flatMap f = m.flatMap g → l.map f = m.map g
  | [], [], _ => rfl
  | [], y :: ys, h => by
    have := congrArg List.length h
    rw [flatMap_len hf, flatMap_len hg] at this; simp at this
  | x :: xs, [], h => by
    have := congrArg List.length h
    rw [flatMap_len hf, flatMap_len hg] at this; simp at this
  | x :: xs, y :: ys, h => by
    rw [List.flatMap_cons, List.flatMap_cons] at h
    obtain ⟨h1, h2⟩ := List.append_inj h (by rw [hf, hg])
    rw [List.map_cons, List.map_cons, h1, flatMap_eq hf hg h2]

/- two lists of crossings, in step: what stands at one place looks alike -/
structure Step (X Y : List Cr) (Z : List (Nat × Nat)) (d e : Nat) : Prop where
  plus : (cr X d).p = (cr Y e).p
  side : ∀ s, s < 4 → (other X (d, s)).2 = (other Y (e, s)).2
  next : ∀ s, s < 4 → ((other X (d, s)).1, (other Y (e, s)).1) ∈ Z
theorem plusI_inj {x y : Cr} (h : plusI x = plusI y) : x.p = y.p := by
  unfold plusI at h
  cases hx : x.p <;> cases hy : y.p <;> simp [hx, hy] at h <;> rfl
theorem zip_at {l m : List Nat} (hl : l.length = m.length) {x y : Nat} (hx : x ∈ l) (hy : y ∈ m) (h : l.idxOf x = m.idxOf y) : (x, y) ∈ l.zip m := by
  have h1 := List.idxOf_lt_length_of_mem hx
  have h2 := List.idxOf_lt_length_of_mem hy
  have e1 := List.getElem_idxOf h1
  have e2 := List.getElem_idxOf h2
  have h3 : l.idxOf x < (l.zip m).length := by rw [List.length_zip]; omega
  have e3 : (l.zip m)[l.idxOf x] = (x, y) := by
    rw [List.getElem_zip, e1]
    congr 1
    conv => rhs; rw [← e2]
    congr 1
  exact e3 ▸ List.getElem_mem h3
theorem mem_zip_map {l m : List Nat} {f g : Nat → List Int} (h : l.map f = m.map g) {d e : Nat} (hz : (d, e) ∈ l.zip m) : f d = g e := by
  obtain ⟨i, hi, he⟩ := List.getElem_of_mem hz
  rw [List.length_zip] at hi
  rw [List.getElem_zip] at he
  injection he with h1 h2
  have h3 : (l.map f)[i]? = (m.map g)[i]? := by rw [h]
  rw [List.getElem?_map, List.getElem?_map, List.getElem?_eq_getElem (by omega), List.getElem?_eq_getElem (by omega)] at h3
  simp only [Option.map_some, Option.some.injEq] at h3
  rwa [h1, h2] at h3
theorem zip_fst {l m : List Nat} {d e : Nat} (h : (d, e) ∈ l.zip m) : d ∈ l := (List.of_mem_zip h).1
theorem zip_snd {l m : List Nat} {d e : Nat} (h : (d, e) ∈ l.zip m) : e ∈ m := (List.of_mem_zip h).2
theorem step_of_codes {X Y : List Cr} {l m : List Nat} (hl : IsPiece X l) (hm : IsPiece Y m) (h : l.flatMap (chunk X l) = m.flatMap (chunk Y m)) :
    l.length = m.length ∧ ∀ p ∈ l.zip m, Step X Y (l.zip m) p.1 p.2 := by
  have hlen : l.length = m.length := by
    have := congrArg List.length h
    rw [flatMap_len (chunk_len X l), flatMap_len (chunk_len Y m)] at this; omega
  have hmap := flatMap_eq (chunk_len X l) (chunk_len Y m) h
  refine ⟨hlen, ?_⟩
  rintro ⟨d, e⟩ hz
  have hc := mem_zip_map hmap hz
  have hd := zip_fst hz
  have he := zip_snd hz
  have hin : ∀ s, s < 4 → (other X (d, s)).1 ∈ l := fun s hs => ((hl.con d hd).2 _).2 (.step (.refl _) (by unfold nbc; rw [if_pos (hl.con d hd).1]; exact mem_nbs.2 ⟨s, hs, rfl⟩))
  have him : ∀ s, s < 4 → (other Y (e, s)).1 ∈ m := fun s hs => ((hm.con e he).2 _).2 (.step (.refl _) (by unfold nbc; rw [if_pos (hm.con e he).1]; exact mem_nbs.2 ⟨s, hs, rfl⟩))
  unfold chunk at hc
  simp only [List.cons.injEq, and_true] at hc
  obtain ⟨c0, i0, s0, i1, s1, i2, s2, i3, s3⟩ := hc
  refine ⟨plusI_inj c0, fun s hs => ?_, fun s hs => ?_⟩
  · match s, hs with
    | 0, _ => exact Int.ofNat_inj.1 s0
    | 1, _ => exact Int.ofNat_inj.1 s1
    | 2, _ => exact Int.ofNat_inj.1 s2
    | 3, _ => exact Int.ofNat_inj.1 s3
  · refine zip_at hlen (hin s hs) (him s hs) ?_
    match s, hs with
    | 0, _ => exact Int.ofNat_inj.1 i0
    | 1, _ => exact Int.ofNat_inj.1 i1
    | 2, _ => exact Int.ofNat_inj.1 i2
    | 3, _ => exact Int.ofNat_inj.1 i3

/- first meetings of two lists of one pattern -/
structure Pat (W : List (Nat × Nat)) : Prop where
  iff : ∀ p ∈ W, ∀ q ∈ W, p.1 = q.1 ↔ p.2 = q.2
theorem meet_pair {W : List (Nat × Nat)} (hW : Pat W) {N N' : List Nat} (hl : N.length = N'.length) (hN : ∀ p ∈ N.zip N', p ∈ W) {a a' : Nat} (ha : (a, a') ∈ W) :
    (a ∈ N ↔ a' ∈ N') ∧ (meet N a).length = (meet N' a').length ∧ ∀ p ∈ (meet N a).zip (meet N' a'), p ∈ W := by
  have hiff : a ∈ N ↔ a' ∈ N' := by
    constructor
    · intro h
      obtain ⟨i, hi, rfl⟩ := List.getElem_of_mem h
      have hz : (N[i], N'[i]) ∈ N.zip N' := by
        have hz' : i < (N.zip N').length := by rw [List.length_zip]; omega
        have := List.getElem_mem hz'
        rwa [List.getElem_zip] at this
      have := (hW.iff _ (hN _ hz) _ ha).1 rfl
      simp only at this
      rw [← this]; exact List.getElem_mem _
    · intro h
      obtain ⟨i, hi, rfl⟩ := List.getElem_of_mem h
      have hz : (N[i], N'[i]) ∈ N.zip N' := by
        have hz' : i < (N.zip N').length := by rw [List.length_zip]; omega
        have := List.getElem_mem hz'
        rwa [List.getElem_zip] at this
      have := (hW.iff _ (hN _ hz) _ ha).2 rfl
      simp only at this
      rw [← this]; exact List.getElem_mem _
  refine ⟨hiff, ?_, ?_⟩
  · unfold meet
    by_cases c : a ∈ N
    · rw [if_pos c, if_pos (hiff.1 c), hl]
    · rw [if_neg c, if_neg (fun x => c (hiff.2 x))]; simp [hl]
  · unfold meet
    by_cases c : a ∈ N
    · rw [if_pos c, if_pos (hiff.1 c)]; exact hN
    · rw [if_neg c, if_neg (fun x => c (hiff.2 x)), List.zip_append hl]
      intro p hp
      rcases List.mem_append.1 hp with hp | hp
      · exact hN p hp
      · simp only [List.zip_cons_cons, List.zip_nil_right, List.mem_singleton] at hp
        rw [hp]; exact ha
theorem meet_nodup {N : List Nat} (h : N.Nodup) (a : Nat) : (meet N a).Nodup := by
  unfold meet; split
  · exact h
  · next c => exact nodup_snoc h c
theorem mem_meet {N : List Nat} {a x : Nat} : x ∈ meet N a ↔ x ∈ N ∨ x = a := by
  unfold meet; split
  · next c => exact ⟨.inl, fun h => h.elim id (fun e => e ▸ c)⟩
  · simp
theorem meets_nodup : ∀ (l : List Nat) {N : List Nat}, N.Nodup → (l.foldl meet N).Nodup
  | [], _, h => h
  | a :: l, _, h => meets_nodup l (meet_nodup h a)
theorem mem_meets : ∀ {l N : List Nat} {x : Nat}, x ∈ l.foldl meet N ↔ x ∈ N ∨ x ∈ l
  | [], N, x => by simp
  | a :: l, N, x => by
    rw [List.foldl_cons, mem_meets, mem_meet, List.mem_cons, or_assoc]
theorem firsts_nodup (l : List Nat) : (firsts l).Nodup := meets_nodup l (by simp)
theorem mem_firsts {l : List Nat} {x : Nat} : x ∈ firsts l ↔ x ∈ l := by unfold firsts; rw [mem_meets]; simp
theorem meets_pair {W : List (Nat × Nat)} (hW : Pat W) : ∀ {u v N N' : List Nat}, u.length = v.length → (∀ p ∈ u.zip v, p ∈ W) → N.length = N'.length → (∀ p ∈ N.zip N', p ∈ W) →
    (u.foldl meet N).length = (v.foldl meet N').length ∧ ∀ p ∈ (u.foldl meet N).zip (v.foldl meet N'), p ∈ W
  | [], [], _, _, _, _, hl, hN => ⟨hl, hN⟩
  | [], _ :: _, _, _, h, _, _, _ => by simp at h
  | _ :: _, [], _, _, h, _, _, _ => by simp at h
  | a :: u, b :: v, N, N', h, hu, hl, hN => by
    obtain ⟨_, h2, h3⟩ := meet_pair hW hl hN (hu (a, b) (by simp))
    exact meets_pair hW (u := u) (v := v) (by simpa using h) (fun p hp => hu p (by simp [hp])) h2 h3
theorem firsts_pair {u v : List Nat} (hl : u.length = v.length) (hW : Pat (u.zip v)) {a b : Nat} (h : (a, b) ∈ u.zip v) : (firsts u).idxOf a = (firsts v).idxOf b := by
  obtain ⟨h1, h2⟩ := meets_pair hW (u := u) (v := v) (N := []) (N' := []) hl (fun p hp => hp) rfl (fun p hp => by cases hp)
  have ha : a ∈ firsts u := mem_firsts.2 (zip_fst h)
  have h3 := List.idxOf_lt_length_of_mem ha
  have e3 := List.getElem_idxOf h3
  have h4 : (firsts u).idxOf a < (firsts v).length := by have : (firsts u).length = (firsts v).length := h1; omega
  have hz : ((firsts u)[(firsts u).idxOf a], (firsts v)[(firsts u).idxOf a]) ∈ (firsts u).zip (firsts v) := by
    have hz' : (firsts u).idxOf a < ((firsts u).zip (firsts v)).length := by rw [List.length_zip]; omega
    have := List.getElem_mem hz'
    rwa [List.getElem_zip] at this
  have e4 := (hW.iff _ (h2 _ hz) _ h).1 e3
  simp only at e4
  rw [← e4, (firsts_nodup v).idxOf_getElem]
end Go.Proofs.Ytgjmjbgicfkojaa.Kn
