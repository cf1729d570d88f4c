/- The form, whichever way equal views lie. -/
import Derived.Test.YtgjmjbgicfkojaaMForm
namespace Go.Proofs.Ytgjmjbgicfkojaa.Kn

theorem Ok.form_any {X : List Cr} (hX : Ok X) {vs : List Vw} (hp : vs.Perm ((piecesL X).map (Kn.best X))) (hs : vs.Pairwise fun a b => cmpV a b ≤ 0) : Kn.numbered X (vs.flatMap (·.1)) = formL X := by
  obtain ⟨v2, p2⟩ := hX.views
  have hq : vs.Perm (viewsL X) := hp.trans (sortV_perm _).symm
  have v1 : ∀ v ∈ vs, IsVw X v := fun v hv => v2 v (hq.mem_iff.1 hv)
  have p1 : (vs.flatMap (·.1)).Perm (List.range X.length) := (List.Perm.flatMap_right _ hq).trans p2
  obtain ⟨s1, s2⟩ := steps v1 v2 (codes_eq v1 v2 hs (sortV_sorted _) (hq.map _))
  exact numbered_eq hX hX (p1.nodup_iff.2 List.nodup_range) (p2.nodup_iff.2 List.nodup_range) (fun x hx => List.mem_range.1 (p1.mem_iff.1 hx)) (fun x hx => List.mem_range.1 (p2.mem_iff.1 hx)) s1 s2
theorem Ok.form_perm {X : List Cr} (hX : Ok X) {vs : List Vw} (hp : vs.Perm ((piecesL X).map (Kn.best X))) : (vs.flatMap (·.1)).Perm (List.range X.length) := (List.Perm.flatMap_right _ (hp.trans (sortV_perm _).symm)).trans hX.views.2
end Go.Proofs.Ytgjmjbgicfkojaa.Kn
