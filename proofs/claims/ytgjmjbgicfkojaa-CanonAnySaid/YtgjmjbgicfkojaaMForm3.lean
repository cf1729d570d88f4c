/- New numbers, one crossing after the other. -/
import Derived.Test.YtgjmjbgicfkojaaMForm2
namespace Go.Proofs.Ytgjmjbgicfkojaa.Kn

theorem meet_pre (N : List Nat) (a : Nat) : N <+: meet N a := by
  unfold meet
  split
  · exact List.prefix_refl _
  · exact List.prefix_append _ _
theorem meet_mem (N : List Nat) (a : Nat) : a ∈ meet N a := by
  unfold meet
  split
  · assumption
  · simp
theorem meets_pre : ∀ (l N : List Nat), N <+: l.foldl meet N
  | [], N => List.prefix_refl _
  | a :: l, N => (meet_pre N a).trans (meets_pre l _)
theorem idx_pre {N M : List Nat} (h : N <+: M) {a : Nat} (ha : a ∈ N) : M.idxOf a = N.idxOf a := by
  obtain ⟨t, rfl⟩ := h
  rw [List.idxOf_append, if_pos ha]
theorem firsts_app (l m : List Nat) : firsts (l ++ m) = m.foldl meet (firsts l) := by unfold firsts; rw [List.foldl_append]
theorem meet_len (N : List Nat) (a : Nat) : (meet N a).length ≤ N.length + 1 := by unfold meet; split <;> simp
theorem firsts_len (l : List Nat) : (firsts l).length ≤ l.length := by
  have : ∀ (l N : List Nat), (l.foldl meet N).length ≤ N.length + l.length := by
    intro l
    induction l with
    | nil => intro N; simp
    | cons a l ih =>
      intro N
      have h1 := ih (meet N a)
      have h2 := meet_len N a
      simp only [List.foldl_cons, List.length_cons]
      omega
  have h := this l []
  unfold firsts
  simpa using h
theorem mem_firsts_self {l : List Nat} {a : Nat} (h : a ∈ l) : a ∈ firsts l := mem_firsts.2 h
/- the four arcs of a crossing, met one after the other -/
def meet4 (N : List Nat) (a b c d : Nat) : List Nat := meet (meet (meet (meet N a) b) c) d
theorem meet4_idx (N : List Nat) (a b c d : Nat) : (meet4 N a b c d).idxOf a = (meet N a).idxOf a ∧ (meet4 N a b c d).idxOf b = (meet (meet N a) b).idxOf b ∧ (meet4 N a b c d).idxOf c = (meet (meet (meet N a) b) c).idxOf c ∧ (meet4 N a b c d).idxOf d = (meet (meet (meet (meet N a) b) c) d).idxOf d :=
  ⟨idx_pre (((meet_pre _ _).trans (meet_pre _ _)).trans (meet_pre _ _)) (meet_mem _ _), idx_pre ((meet_pre _ _).trans (meet_pre _ _)) (meet_mem _ _), idx_pre (meet_pre _ _) (meet_mem _ _), rfl⟩
theorem firsts_snoc (X : List Cr) (os : List Nat) (c : Nat) : firsts ((os ++ [c]).flatMap (arcsOf X)) = meet4 (firsts (os.flatMap (arcsOf X))) (arcN X (c, 0)) (arcN X (c, 1)) (arcN X (c, 2)) (arcN X (c, 3)) := by
  rw [List.flatMap_append, firsts_app]
  simp only [List.flatMap_cons, List.flatMap_nil, List.append_nil]
  rfl
theorem numbered_snoc (X : List Cr) (os : List Nat) (c : Nat) : numbered X (os ++ [c]) = numbered X os ++ [(cr X c).ren fun a => (firsts ((os ++ [c]).flatMap (arcsOf X))).idxOf a + 1] := by
  unfold numbered
  rw [List.map_append]
  congr 1
  refine List.map_congr_left fun d hd => ?_
  have hk : ∀ a ∈ arcsOf X d, (firsts ((os ++ [c]).flatMap (arcsOf X))).idxOf a = (firsts (os.flatMap (arcsOf X))).idxOf a := fun a ha => by
    rw [List.flatMap_append, firsts_app]
    exact idx_pre (meets_pre _ _) (mem_firsts.2 (List.mem_flatMap.2 ⟨d, hd, ha⟩))
  have h0 := hk (cr X d).a.toNat (by unfold arcsOf arcN at_ Cr.arc; simp)
  have h1 := hk (cr X d).b.toNat (by unfold arcsOf arcN at_ Cr.arc; simp)
  have h2 := hk (cr X d).c.toNat (by unfold arcsOf arcN at_ Cr.arc; simp)
  have h3 := hk (cr X d).d.toNat (by unfold arcsOf arcN at_ Cr.arc; simp)
  unfold Cr.ren
  simp only [h0, h1, h2, h3]
end Go.Proofs.Ytgjmjbgicfkojaa.Kn
