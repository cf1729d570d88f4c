/- The pairs of fractions of 39: by reckoning. -/
import Derived.Test.YteedpdlibhjhpaaDoorKX13
import Derived.Test.YteedpdlibhjhpaaDoorKX17
import Derived.Test.YteedpdlibhjhpaaDoorKX21
import Derived.Test.YteedpdlibhjhpaaDoorKX25
import Derived.Test.YteedpdlibhjhpaaDoorKX29
import Derived.Test.YteedpdlibhjhpaaDoorKX33
import Derived.Test.YteedpdlibhjhpaaDoorKX37
import Derived.Test.YteedpdlibhjhpaaDoorJ7
/- The pairs of fractions of 39: by reckoning. -/
namespace Go.Proofs.YteedpdlibhjhpaaDoor
set_option maxRecDepth 100000
theorem ok_39 : okX 39 = true := by decide +kernel
theorem pr_39 : prX 39 = true := by decide +kernel
end Go.Proofs.YteedpdlibhjhpaaDoor

/- The pairs of fractions: what was reckoned, put together. -/
namespace Go.Proofs.YteedpdlibhjhpaaDoor

theorem ok_all {x : Nat} (hx : x < 40) (h2 : x % 2 = 1) : okX x = true ∧ prX x = true := by
  obtain ⟨k, rfl⟩ : ∃ k, x = 2 * k + 1 := ⟨x / 2, by omega⟩
  have hk : k < 20 := by omega
  match k, hk with
  | 0, _ => exact ⟨ok_1, pr_1⟩
  | 1, _ => exact ⟨ok_3, pr_3⟩
  | 2, _ => exact ⟨ok_5, pr_5⟩
  | 3, _ => exact ⟨ok_7, pr_7⟩
  | 4, _ => exact ⟨ok_9, pr_9⟩
  | 5, _ => exact ⟨ok_11, pr_11⟩
  | 6, _ => exact ⟨ok_13, pr_13⟩
  | 7, _ => exact ⟨ok_15, pr_15⟩
  | 8, _ => exact ⟨ok_17, pr_17⟩
  | 9, _ => exact ⟨ok_19, pr_19⟩
  | 10, _ => exact ⟨ok_21, pr_21⟩
  | 11, _ => exact ⟨ok_23, pr_23⟩
  | 12, _ => exact ⟨ok_25, pr_25⟩
  | 13, _ => exact ⟨ok_27, pr_27⟩
  | 14, _ => exact ⟨ok_29, pr_29⟩
  | 15, _ => exact ⟨ok_31, pr_31⟩
  | 16, _ => exact ⟨ok_33, pr_33⟩
  | 17, _ => exact ⟨ok_35, pr_35⟩
  | 18, _ => exact ⟨ok_37, pr_37⟩
  | 19, _ => exact ⟨ok_39, pr_39⟩
  | _ + 20, h => exact absurd h (by omega)
end Go.Proofs.YteedpdlibhjhpaaDoor

/- The pairs of fractions: one polynomial. -/
namespace Go.Proofs.YteedpdlibhjhpaaDoor

/- what is wanted of a list -/
structure LkOk (l : List Nat) (X : List Kn.Cr) : Prop where
  link : Kn.linkN l = some (X, 0)
  len : X.length ≤ 12
  opn : opC X 0 = 0
  odd : l.length % 2 = 1
theorem okL_lk {l : List Nat} (h : okL l = true) : ∃ X, LkOk l X := by
  unfold okL at h
  split at h
  · rename_i X L hX
    simp only [Bool.and_eq_true, decide_eq_true_eq] at h
    obtain ⟨⟨⟨h1, rfl⟩, h3⟩, h4⟩ := h
    exact ⟨X, hX, h1, h3, h4⟩
  · cases h
theorem lk_of {x y : Nat} (hx : x < 40) (hx2 : x % 2 = 1) (hy : 1 ≤ y) (hyx : y ≤ x) (r1 : rightB x y = true) (s1 : (Kn.expandL x y).sum ≤ 10) : ∃ X, LkOk (Kn.expandL x y) X := by
  have h := List.all_eq_true.1 (ok_all hx hx2).1 (y - 1) (List.mem_range.2 (by omega))
  rw [show y - 1 + 1 = y by omega, r1, decide_eq_true s1] at h
  exact okL_lk (by simpa using h)
theorem pr_of {x y z : Nat} (hx : x < 40) (hx2 : x % 2 = 1) (hy : 1 ≤ y) (hyz : y < z) (hzx : z ≤ x) (r1 : rightB x y = true) (r2 : rightB x z = true) (hs : sameB x y z = true) (s1 : (Kn.expandL x y).sum ≤ 10) (s2 : (Kn.expandL x z).sum ≤ 10) : prB (Kn.expandL x y) (Kn.expandL x z) = true := by
  have h := List.all_eq_true.1 (ok_all hx hx2).2 (y - 1) (List.mem_range.2 (by omega))
  rw [show y - 1 + 1 = y by omega, r1, decide_eq_true s1] at h
  have h' := List.all_eq_true.1 (show (List.range x).all _ = true by simpa only [Bool.not_true, Bool.false_or] using h) (z - 1) (List.mem_range.2 (by omega))
  rw [show z - 1 + 1 = z by omega, r2, hs, decide_eq_true s2, decide_eq_true (show y - 1 < z - 1 by omega)] at h'
  simpa only [Bool.not_true, Bool.false_or] using h'
theorem jones_eq {X Y : List Kn.Cr} (h1 : X.length = Y.length) (h2 : wrt X = wrt Y) (h3 : ∀ f : Int → Int, Pl.tot (Kn.kindsTo X 0 (2 ^ X.length)) f = Pl.tot (Kn.kindsTo Y 0 (2 ^ Y.length)) f) {m1 m2 : List Pl.T} (j1 : JonesIs X 0 m1) (j2 : JonesIs Y 0 m2) : m1 = m2 := by
  obtain ⟨l1, i1, c1⟩ := j1
  obtain ⟨l2, i2, c2⟩ := j2
  refine i1.unique i2 fun e => ?_
  rw [sh_co, sh_co, c1, c2, h3, h2]
theorem pr_eq {l l' : List Nat} {X Y : List Kn.Cr} (hX : LkOk l X) (hY : LkOk l' Y) (h : prB l l' = true) {m1 m2 : List Pl.T} (j1 : JonesIs X 0 m1) (j2 : JonesIs Y 0 m2) : m1 = m2 := by
  unfold prB at h
  rw [hX.link, hY.link] at h
  simp only [Bool.and_eq_true, decide_eq_true_eq] at h
  obtain ⟨⟨h1, h2⟩, h3⟩ := h
  exact jones_eq h1 h2 (fun f => Kn.tot_same 0 h1 (fun φ => Kn.sum_of_hR hX.len hY.len h3 φ) f) j1 j2
theorem sameB_symm (x y z : Nat) : sameB x z y = sameB x y z := by
  unfold sameB
  rw [Nat.mul_comm z y]
  congr 1
  exact decide_eq_decide.2 ⟨fun h => h.symm, fun h => h.symm⟩
theorem pair_ok {x y z : Nat} (hx : x < 40) (hx2 : x % 2 = 1) (hy : 1 ≤ y) (hyx : y ≤ x) (hz : 1 ≤ z) (hzx : z ≤ x) (r1 : rightB x y = true) (r2 : rightB x z = true) (hs : sameB x y z = true) (s1 : (Kn.expandL x y).sum ≤ 10) (s2 : (Kn.expandL x z).sum ≤ 10) :
    ∃ X Y, LkOk (Kn.expandL x y) X ∧ LkOk (Kn.expandL x z) Y ∧ ∀ m1 m2, JonesIs X 0 m1 → JonesIs Y 0 m2 → m1 = m2 := by
  obtain ⟨X, hX⟩ := lk_of hx hx2 hy hyx r1 s1
  obtain ⟨Y, hY⟩ := lk_of hx hx2 hz hzx r2 s2
  refine ⟨X, Y, hX, hY, fun m1 m2 j1 j2 => ?_⟩
  rcases Nat.lt_trichotomy y z with h | h | h
  · exact pr_eq hX hY (pr_of hx hx2 hy h hzx r1 r2 hs s1 s2) j1 j2
  · subst h
    have e : X = Y := by
      have h := hX.link
      rw [hY.link] at h
      cases h; rfl
    subst e
    exact jones_eq rfl rfl (fun _ => rfl) j1 j2
  · exact (pr_eq hY hX (pr_of hx hx2 hz h hyx r2 r1 (by rw [sameB_symm]; exact hs) s2 s1) j2 j1).symm
end Go.Proofs.YteedpdlibhjhpaaDoor
