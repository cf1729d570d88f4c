/- Walks: total, check, Expand. -/
import Derived.Test.YtcfpdeeipbekfaaJX
import Derived.Test.YtcfpdeeipbekfaaShelf2
import Derived.Test.YtcfpdeeipbekfaaU0
/- Walks: total, check, Expand. -/
namespace Go.Proofs.Ytcfpdeeipbekfaa
open Go.RowKit

theorem own_set {w : World} {base e sz g c n : Nat} {xs : List Value} (h : w.ownsRow base e sz (.slice (some ⟨g, 0, none⟩) n c) n xs) (j : Nat) (v : Value) :
    (w.setCell ⟨g, j, none⟩ v).ownsRow base e sz (.slice (some ⟨g, 0, none⟩) n c) n (xs.set j v) := by
  rcases h.2 with ⟨he, hn⟩ | ⟨g', cap, cur, he, hb, hg, h1, h2, h3, h4⟩
  · cases he
  · injection he with e1 e2 e3
    injection e1 with e1
    injection e1 with e1 _ _
    subst e1
    subst e3
    refine ⟨by rw [List.length_set]; exact h.1, .inr ⟨g, c, cur.setIfInBounds j v, rfl, hb, ?_, h1, h2, by simpa using h3, ?_⟩⟩
    · simp [World.setCell, Array.getElem?_modify, hg]
    · rw [Array.toList_setIfInBounds, ← h4, List.take_set]
theorem own_free {w : World} {base e sz g c n : Nat} {xs : List Value} (h : w.ownsRow base e sz (.slice (some ⟨g, 0, none⟩) n c) n xs) (j : Nat) : w.frozen? ⟨g, j, none⟩ = false := by
  rcases h.2 with ⟨he, hn⟩ | ⟨g', cap, cur, he, hb, hg, _⟩
  · cases he
  · injection he with e1 e2 e3
    injection e1 with e1
    injection e1 with e1 _ _
    subst e1
    simp [World.frozen?, hg]
theorem nums_cell {w : World} {base : Nat} {v : Value} {l : List Nat} (h : w.ownsRow base 3 1 v l.length (nums l)) {i : Nat} (hi : i < l.length) : ∃ g c, v = .slice (some ⟨g, 0, none⟩) l.length c ∧ w.cell? ⟨g, i, none⟩ = some (.int .i64 (l.getD i 0 : Nat)) ∧ w.frozen? ⟨g, i, none⟩ = false := by
  obtain ⟨a, c, rfl, _, h3⟩ := own_shape h
  obtain ⟨g, rfl, _, h4⟩ := h3 (by omega)
  refine ⟨g, c, rfl, ?_, ?_⟩
  · rw [h4 i (by rw [nums_length]; exact hi), List.getD_eq_getElem?_getD, List.getElem?_eq_getElem hi]
    simp [nums]
  · exact own_free h i
end Go.Proofs.Ytcfpdeeipbekfaa

/- Walks: Expand. -/
namespace Go.Proofs.Ytcfpdeeipbekfaa
open Go.RowKit

namespace Kn
theorem expandF_fuel : ∀ (f f' p q : Nat), q < f → q < f' → Kn.expandF f p q = Kn.expandF f' p q
  | 0, _, _, _, h, _ => by omega
  | _ + 1, 0, _, _, _, h => by omega
  | f + 1, f' + 1, p, q, h, h' => by
    rw [Kn.expandF, Kn.expandF]
    by_cases c : q = 0
    · rw [if_pos c, if_pos c]
    · have hm : p % q < q := Nat.mod_lt _ (by omega)
      rw [if_neg c, if_neg c, expandF_fuel f f' q (p % q) (by omega) (by omega)]
end Kn
def ex (p q : Nat) : List Nat := Kn.expandF (q + 1) p q
theorem ex_zero (p : Nat) : ex p 0 = [] := by simp [ex, Kn.expandF]
theorem ex_succ {p q : Nat} (h : q ≠ 0) : ex p q = p / q :: ex q (p % q) := by
  have hm : p % q < q := Nat.mod_lt _ (by omega)
  unfold ex
  rw [Kn.expandF, if_neg h, Kn.expandF_fuel q (p % q + 1) q (p % q) (by omega) (by omega)]
def exEnd (l : List Nat) : List Nat := if l.length % 2 = 0 then l.dropLast ++ [l.getLastD 0 - 1, 1] else l
theorem expand_eq (p q : Nat) : Kn.expandL p q = (exEnd (ex p q)).reverse := rfl
def GaveExp (p q : Nat) (w : World) (e : Ending) (w' : World) : Prop :=
  New w w' ∧ ((rightB p q = true ∧ ∃ v, e = .returned (.tuple #[v, .int .i64 0]) ∧ w'.ownsRow w.heap.size 3 1 v (Kn.expandL p q).length (nums (Kn.expandL p q))) ∨ (rightB p q = false ∧ e = .returned (.tuple #[.slice none 0 0, .int .i64 3])))
theorem snoc_or (l : List Nat) : l = [] ∨ ∃ m y, l = m ++ [y] := by
  induction l with
  | nil => exact .inl rfl
  | cons a l ih =>
    rcases ih with rfl | ⟨m, y, rfl⟩
    · exact .inr ⟨[], a, rfl⟩
    · exact .inr ⟨a :: m, y, rfl⟩
theorem setLast {l : List Nat} (h : 0 < l.length) (x : Nat) : l.set (l.length - 1) x = l.dropLast ++ [x] := by
  rcases snoc_or l with rfl | ⟨m, y, rfl⟩
  · simp at h
  · simp
theorem last_at {l : List Nat} (h : 0 < l.length) : l.getD (l.length - 1) 0 = l.getLastD 0 := by
  rcases snoc_or l with rfl | ⟨m, y, rfl⟩
  · simp at h
  · simp
theorem own_setN {w : World} {base g c n : Nat} {l : List Nat} (h : w.ownsRow base 3 1 (.slice (some ⟨g, 0, none⟩) n c) n (nums l)) {i : Nat} (hi : i < l.length) (x : Nat) : (w.setCell ⟨g, i, none⟩ (.int .i64 (x : Nat))).ownsRow base 3 1 (.slice (some ⟨g, 0, none⟩) n c) n (nums (l.set i x)) := by
  have e : nums (l.set i x) = (nums l).set i (.int .i64 (x : Nat)) := by unfold nums; rw [List.map_set]
  rw [e]; exact own_set h i _
/- the library's Reverse, at a row of the call's own -/
theorem rev_own (base : Nat) (v : Value) (l : List Nat) (w : World) (ho : w.ownsRow base 3 1 v l.length (nums l)) (hl : l.length ≤ 100000) :
    Calls Try.prog 23 #[v] w fun e w' => e = .returned (.tuple #[]) ∧ w'.ownsRow base 3 1 v l.length (nums l.reverse) ∧ w.grownBy w' v.ownBlock := by
  rcases ho.2 with ⟨rfl, h0⟩ | ⟨g, cap, cur, rfl, hb, hg, h1, h2, h3, h4⟩
  · refine (Try.slices_Reverse_int_empty none 0 w).mono ?_
    rintro e w' ⟨rfl, rfl⟩
    have hl0 : l = [] := List.eq_nil_of_length_eq_zero h0
    subst hl0
    exact ⟨rfl, ho, ⟨rfl, rfl, rfl, Nat.le_refl _, fun _ _ _ => rfl⟩⟩
  · have hH : Go.Sort.Holds (Value.int .i64) w g 0 (l.map fun n : Nat => (n : Int)).toArray := holds_of_blockI hg (by rw [List.length_map, ← nums_eq, ← h4, Nat.mul_one])
    have hc := Try.slices_Reverse_int g 0 cap (l.map fun n : Nat => (n : Int)) w hH (by simp; omega)
    rw [List.length_map] at hc
    refine hc.mono ?_
    rintro e w' ⟨rfl, nn, rfl⟩
    rw [← List.map_reverse]
    refine ⟨rfl, ?_, ?_⟩
    · have := ownsRow_sortedI (w := w) (n := nn) (os := #[]) (ss := l.map fun n : Nat => (n : Int)) (ts := l.reverse.map fun n : Nat => (n : Int)) (cap := cap) (by simp) hb hg (by simpa using h1) h2 h3
      rw [List.length_map, Go.Sort.grow_empty] at this
      rw [nums_eq]
      exact this
    · have := grownBy_sortedI (w := w) (g := g) (n := nn) (os := #[]) (l.reverse.map fun n : Nat => (n : Int)).toArray
      rwa [Go.Sort.grow_empty] at this
set_option maxRecDepth 100000 in
set_option maxHeartbeats 2000000 in
theorem expand_any (p q : Nat) (w : World) (hp : 1 ≤ p) (hp' : p ≤ 1000) (hq : 1 ≤ q) (hq' : q ≤ p) :
    Calls Try.prog 10 #[.int .i64 p, .int .i64 q] w (GaveExp p q w) := by
  unfold GaveExp
  obtain ⟨r, HR⟩ : ∃ r, Hid (r = rightB p q) := ⟨_, Lib.hid rfl⟩
  rw [← HR.out]
  obtain ⟨i0, hi, hz0, hz1, hz2⟩ := info_parts Try.info3
  cases r
  · go_enter Try.func10, Try.ntmps10
    go_wp2_with (go_at_call 22; refine (right_any p q _ hp hp' hq (by omega)).mono ?_; rintro e w4 ⟨rfl, hF⟩; rw [← HR.out]; have HF := Lib.hid hF; clear hF)
    go_ret2
    exact ⟨HF.out, by simp⟩
  · go_enter Try.func10, Try.ntmps10
    go_wp2_with (go_at_call 22; refine (right_any p q _ hp hp' hq (by omega)).mono ?_; rintro e w4 ⟨rfl, hF⟩; rw [← HR.out]; have HF := Lib.hid hF; clear hF)
    go_loopw [0, 1, 6] (fun x y s wr => ∃ (c d : Nat) (l : List Nat), x = .int .i64 c ∧ y = .int .i64 d ∧ c ≤ 1000 ∧ d ≤ c ∧ l.length + d ≤ q ∧ Hid (l ++ ex c d = ex p q) ∧ Hid (∀ z ∈ l, 1 ≤ z ∧ z ≤ 1000) ∧ Hid (wr.ownsRow w.heap.size 3 1 s l.length (nums l)) ∧ Hid (New w wr)) (fun _ y _ _ => (intOf y).toNat)
    case atStart => exact ⟨p, q, [], rfl, rfl, hp', hq', by simp, Lib.hid rfl, Lib.hid (by simp), Lib.hid (World.ownsRow_nil _ _ _ _), HF⟩
    case round =>
      obtain ⟨c, d, l, rfl, rfl, hc, hd, hld, HE, HZ, HO, HFr⟩ := hrel
      obtain ⟨a6, c6, rfl, _, _⟩ := own_shape HO.out
      obtain ⟨m, HM⟩ : ∃ m, Hid (m = l.length) := ⟨_, Lib.hid rfl⟩
      have ho := HO.out
      rw [← HM.out] at hld ho ⊢
      have HO2 := Lib.hid ho
      clear ho
      by_cases hz : d = 0
      · subst hz
        have hml : 0 < m := by
          have h1 := HE.out
          rw [ex_zero, List.append_nil, ex_succ (show q ≠ 0 by omega)] at h1
          have := HM.out
          rw [h1] at this
          simp at this
          omega
        have HLE : Hid (l = ex p q) := Lib.hid (by have h1 := HE.out; rw [ex_zero, List.append_nil] at h1; exact h1)
        have HRX : Hid (Kn.expandL p q = (exEnd l).reverse) := Lib.hid (by rw [expand_eq, HLE.out])
        have hm1000 : m ≤ 1000 := by omega
        by_cases par : m % 2 = 0
        · have hpar : ((m : Int) - 1).tmod 2 = 1 := by rw [Int.tmod_eq_emod_of_nonneg (by omega)]; omega
          obtain ⟨k, rfl⟩ : ∃ k, m = k + 1 := ⟨m - 1, by omega⟩
          have hkl : k < l.length := by have := HM.out; omega
          have ho3 : wr.ownsRow w.heap.size 3 1 (.slice a6 (k + 1) c6) l.length (nums l) := by rw [← HM.out]; exact HO2.out
          obtain ⟨g, c', e', hcell, hfz⟩ := nums_cell ho3 hkl
          obtain rfl : a6 = some ⟨g, 0, none⟩ := by injection e'
          obtain ⟨x, HX⟩ : ∃ x, Hid (x = l.getD k 0) := ⟨_, Lib.hid rfl⟩
          have hx := HZ.out (l.getD k 0) (by rw [List.getD_eq_getElem?_getD, List.getElem?_eq_getElem hkl]; exact List.getElem_mem hkl)
          rw [← HX.out] at hcell hx
          obtain ⟨y, rfl⟩ : ∃ y, x = y + 1 := ⟨x - 1, by omega⟩
          have hy : y ≤ 1000 := by omega
          have HLX : Hid (exEnd l = l.set k y ++ [1]) := Lib.hid (by
            unfold exEnd
            rw [if_pos (by rw [← HM.out]; exact par)]
            have h1 : k = l.length - 1 := by have := HM.out; omega
            have h2 := setLast (l := l) (by omega) y
            rw [← h1] at h2
            have h3 := last_at (l := l) (by omega)
            rw [← h1, ← HX.out] at h3
            rw [h2, ← h3]
            simp)
          have HOS : Hid ((wr.setCell ⟨g, k, none⟩ (.int .i64 (y : Nat))).ownsRow w.heap.size 3 1 (.slice (some ⟨g, 0, none⟩) (k + 1) c6) (k + 1) (nums (l.set k y))) := Lib.hid (own_setN HO2.out hkl y)
          have i1 : (0 : Int) ≤ (k : Int) := by omega
          have i2 : (k : Int) < (k : Int) + 1 := by omega
          have hgb : w.heap.size ≤ g := own_lb HO2.out g rfl
          clear e' hx ho3
          go_wp2_with (first
            | (at_builtin; refine wpList_append_own _ rfl _ _ 22 rfl w.heap.size 3 i0 (.int .i64 0) 1 8 Try.underlying22 hi hz0 hz1 hz2 rfl (by decide) _ (k + 1) (nums (l.set k y)) rfl (World.ownsRow.alloc HOS.out _) ⟨wr.heap.size, 0, none⟩ 1 1 [.int .i64 1] rfl rfl (cell_one' (size_set _ _ _).symm) (one_int _) (by unfold maxLen; omega) (by omega) (by have := HFr.out.size; rw [World.size_alloc, size_set]; omega) ?_; intro v' w7 hown hgrow _; obtain ⟨a9, c10, rfl, _⟩ := own_shape2 hown; have HOW : Hid (w7.ownsRow w.heap.size 3 1 (.slice a9 (k + 1 + 1) c10) (l.set k y ++ [1]).length (nums (l.set k y ++ [1]))) := (Lib.hid (by rw [List.length_append, List.length_set, ← HM.out, nums_snoc]; exact hown)); have HGR : Hid (New w w7) := (Lib.hid (((HFr.out.setCell (a := ⟨g, k, none⟩) (.inr hgb) _).alloc _).grown hgrow fun k' ek => .inr (own_lb HOS.out k' ek))); clear hown hgrow)
            | (go_at_call 23; refine (rev_own w.heap.size (.slice a9 (k + 1 + 1) c10) (l.set k y ++ [1]) _ HOW.out (by have := HM.out; simp; omega)).mono ?_; rintro e w8 ⟨rfl, hown8, hg8⟩; have HO8 := Lib.hid hown8; have HF8 : Hid (New w w8) := (Lib.hid (HGR.out.grown hg8 fun k' ek => .inr (own_lb HOW.out k' ek))); clear hown8 hg8)
            | go_in)
          go_ret2
          refine ⟨HF8.out, .inl ⟨trivial, _, rfl, ?_⟩⟩
          rw [HRX.out, HLX.out, List.length_reverse]
          exact HO8.out
        · have hpar : ((m : Int) - 1).tmod 2 = 0 := by rw [Int.tmod_eq_emod_of_nonneg (by omega)]; omega
          have HLX : Hid (exEnd l = l) := Lib.hid (by unfold exEnd; rw [if_neg (by rw [← HM.out]; exact par)])
          have HOW : Hid (wr.ownsRow w.heap.size 3 1 (.slice a6 m c6) l.length (nums l)) := Lib.hid (by rw [← HM.out]; exact HO2.out)
          have hll : l.length ≤ 1000 := by have := HM.out; omega
          have HLL := Lib.hid hll
          clear hll
          go_wp2_with (first
            | (go_at_call 23; refine (rev_own w.heap.size (.slice a6 m c6) l _ HOW.out (by have := HLL.out; omega)).mono ?_; rintro e w8 ⟨rfl, hown8, hg8⟩; have HO8 := Lib.hid hown8; have HF8 : Hid (New w w8) := (Lib.hid (HFr.out.grown hg8 fun k' ek => .inr (own_lb HOW.out k' ek))); clear hown8 hg8)
            | go_in)
          go_ret2
          refine ⟨HF8.out, .inl ⟨trivial, _, rfl, ?_⟩⟩
          rw [HRX.out, HLX.out, List.length_reverse]
          exact HO8.out
      · have hz' : (d : Int) ≠ 0 := by omega
        have hm : c % d < d := Nat.mod_lt _ (by omega)
        have e1 : (c : Int).tmod d = ((c % d : Nat) : Int) := by
          rw [Int.tmod_eq_emod_of_nonneg (by omega)]; rfl
        have e2 : (c : Int).tdiv d = ((c / d : Nat) : Int) := by
          rw [Int.tdiv_eq_ediv_of_nonneg (by omega)]; rfl
        obtain ⟨u, HU⟩ : ∃ u, Hid (u = c % d) := ⟨_, Lib.hid rfl⟩
        obtain ⟨t, HT⟩ : ∃ t, Hid (t = c / d) := ⟨_, Lib.hid rfl⟩
        have ht : 1 ≤ c / d := Nat.div_pos hd (by omega)
        have ht' : c / d ≤ c := Nat.div_le_self _ _
        rw [← HU.out] at e1 hm
        rw [← HT.out] at e2 ht ht'
        go_wp2_with (first
          | (at_builtin; refine wpList_append_own _ rfl _ _ 22 rfl w.heap.size 3 i0 (.int .i64 0) 1 8 Try.underlying22 hi hz0 hz1 hz2 rfl (by decide) _ m (nums l) rfl (World.ownsRow.alloc HO2.out _) ⟨wr.heap.size, 0, none⟩ 1 1 [.int .i64 (t : Int)] rfl rfl (cell_one_new _ _ _) (one_int _) (by unfold maxLen; omega) (by omega) (by have := HFr.out.size; simp; omega) ?_; intro v' w7 hown hgrow _; obtain ⟨a9, c10, rfl, _⟩ := own_shape2 hown; have HOW := Lib.hid hown; have HGR := Lib.hid hgrow; clear hown hgrow)
          | go_in)
        have HFX : Hid (New w w7) := Lib.hid ((HFr.out.alloc _).grown HGR.out fun k ek => .inr (own_lb HO2.out k ek))
        have hz2 : (d : Int) ≠ 0 := hz'
        go_region
        go_wp2
        go_roundw
        case rel =>
          refine ⟨d, u, l ++ [t], rfl, by first | rfl | rw [e1] | simp [e1], by omega, by omega, by rw [List.length_append, ← HM.out]; simp; omega, Lib.hid (by rw [← HE.out, ex_succ hz, ← HU.out, ← HT.out]; simp), Lib.hid (fun z hz => ?_), Lib.hid (by rw [nums_snoc, List.length_append, ← HM.out]; exact HOW.out), Lib.hid HFX.out.drew⟩
          rw [List.mem_append, List.mem_singleton] at hz
          rcases hz with hz | rfl
          · exact HZ.out z hz
          · omega
        case measure => simp [intOf]; omega
end Go.Proofs.Ytcfpdeeipbekfaa
