/- Walks: Grow, Concat. -/
import Derived.Test.YtdelekkbkpldjaaDoorP11
import Derived.Test.YtdelekkbkpldjaaDoorShelf2
namespace Go.Proofs.YtdelekkbkpldjaaDoor
open Go.RowKit Go.Maps

theorem info33t : (Tryd.prog.info? 33).map (fun i => (i.zero, i.size, i.bytes)) = some (some (.slice none 0 0), 1, 24) := by kernel_rfl
def GaveOwn (e : Nat) (w : World) (x : Ending) (w' : World) : Prop := ∃ v, x = .returned v ∧ OwnV w.heap.size e w' v [] ∧ New w w'
theorem grow_any (n : Nat) (w : World) (hn : n ≤ 1000) : Calls Tryd.prog 54 #[.slice none 0 0, .int .i64 n] w (GaveOwn 33 w) := by
  obtain ⟨i0, hi, hz0, hz1, hz2⟩ := info_parts info33t
  by_cases h0 : n = 0
  · subst h0
    refine (Any8.slices_Grow_room Tryd.growA none 0 0 0 w (by omega) (by omega) (by omega) (by omega)).mono ?_
    rintro e w' ⟨rfl, rfl⟩
    exact ⟨_, rfl, World.ownsRow_nil _ _ _ _, Fr.refl _ _⟩
  · refine (Any8.slices_Grow_grow Tryd.growA i0 _ hi hz0 (by omega) none 0 0 n [] w (by omega) (by omega) (by rw [hz2]; omega) (by omega) (by simp) (fun _ => rfl) (fun a h => by cases h)).mono ?_
    rintro e w' ⟨rfl, rfl⟩
    have hge := grownCap_ge w (0 + n) 0 33
    have hcm := grownCap_le_maxLen w (0 + n) 0 33 (by unfold maxLen; omega)
    refine ⟨_, rfl, ?_, (Fr.refl _ _).drew.alloc _⟩
    refine World.ownsRow_made w.drew _ _ (Nat.le_refl _) hcm ?_
    simp only [Array.size_append, size_zeroCells, List.size_toArray, List.length_nil]
    have e1 : (Value.slice none 0 0).cells.size = 1 := rfl
    rw [e1]
    show 0 + (0 + n - 0) * 1 + (grownCap w (0 + n) 0 33 - (0 + n)) * 1 = grownCap w (0 + n) 0 33 * 1
    omega

theorem CellsAt.news {w : World} {b o : Nat} {ys : List Value} (h : CellsAt w (some ⟨b, o, none⟩) ys) : ∀ j u, ys[j]? = some u → w.cell? ((⟨b, o, none⟩ : Addr).add j) = some u := by
  intro j u hj
  have hjl : j < ys.length := by
    rcases Nat.lt_or_ge j ys.length with c | c
    · exact c
    · rw [List.getElem?_eq_none c] at hj; cases hj
  rcases h with rfl | ⟨b', o', he, hc⟩
  · simp at hjl
  · injection he with he
    injection he with h1 h2
    subst h1; subst h2
    rw [addr_add, hc j hjl, List.getD_eq_getElem?_getD, hj]
    rfl
theorem ts_oneV {w : World} {xs : List Value} {l : List (List Pl.T)} (h : ElsP (Ts w) xs l) : ∀ u ∈ xs, u.oneCell' = true := by
  intro u hu
  obtain ⟨i, hi, rfl⟩ := List.mem_iff_getElem.1 hu
  have := h.at_ i (by rw [← h.len]; exact hi)
  rw [List.getD_eq_getElem?_getD, List.getElem?_eq_getElem hi] at this
  obtain ⟨a, c, he, _⟩ := this
  simp only [Option.getD_some] at he
  rw [he]; rfl
theorem flat_take {m : Pl.Tab} {k : Nat} (hk : k < m.length) : (m.take (k + 1)).flatten = (m.take k).flatten ++ m.getD k [] := by
  rw [List.take_succ_eq_append_getElem hk, List.flatten_append, List.getD_eq_getElem?_getD, List.getElem?_eq_getElem hk]; simp
theorem flat_take_le (m : Pl.Tab) (k : Nat) : (m.take k).flatten.length ≤ m.flatten.length := by
  conv => rhs; rw [← List.take_append_drop k m, List.flatten_append, List.length_append]
  omega

set_option maxRecDepth 100000 in
set_option maxHeartbeats 1000000 in
theorem concat_any (v : Value) (m : Pl.Tab) (w : World) (hm : TabT w v m) (hl : m.flatten.length ≤ 1000) (hlm : m.length ≤ 1000) (hr : ∀ i, i < m.length → 1 ≤ (m.getD i []).length) :
    Calls Tryd.prog 35 #[v] w fun e w' => ∃ v', e = .returned v' ∧ RowT w' v' m.flatten ∧ New w w' := by
  obtain ⟨vs, ⟨a, c, rfl, hcl⟩, hel⟩ := hm
  obtain ⟨n, hn⟩ : ∃ n, n = vs.length := ⟨_, rfl⟩
  have hnm : n = m.length := by rw [hn, hel.len]
  rw [← hn]
  have hn1 : n ≤ 1000 := by omega
  have HN := Lib.hid hn
  have HNM := Lib.hid hnm
  have HCL : Hid (CellsAt w a vs) := Lib.hid hcl
  have HEL := Lib.hid hel
  have HR := Lib.hid hr
  have HLL := Lib.hid hl
  clear hn hnm hcl hel hr hl hlm
  obtain ⟨i0, hi, hz0, hz1, hz2⟩ := info_parts info33t
  go_enter Tryd.func35, Tryd.ntmps35
  go_wp2
  go_loopw [3, 5, 11] (fun s _ i wr => ∃ k z : Nat, k ≤ n ∧ i = .int .i64 k ∧ s = .int .i64 z ∧ z ≤ 1000 ∧ Hid (z = (m.take k).flatten.length) ∧ Hid (New w wr)) (fun _ _ i _ => n - (intOf i).toNat)
  case atStart => exact ⟨0, 0, by omega, rfl, rfl, by omega, Lib.hid (by simp), Lib.hid (Fr.refl _ _)⟩
  case round =>
    obtain ⟨k, z, hk, rfl, rfl, hz, HZ, HF⟩ := hrel
    by_cases hlt : k < n
    · obtain ⟨b, o, rfl, d1⟩ := (New.cells HF.out HCL.out).at (k := k) (by have := HN.out; omega)
      obtain ⟨xs, ⟨a1, c1, er, hc1⟩, hel1⟩ := HEL.out.at_ k (by have := HNM.out; omega)
      have hft := flat_take (m := m) (k := k) (by have := HNM.out; omega)
      have hle := flat_take_le m (k + 1)
      have hxl : xs.length = (m.getD k []).length := hel1.len
      obtain ⟨xl, HXL⟩ : ∃ xl, Hid (xl = xs.length) := ⟨_, Lib.hid rfl⟩
      rw [er, ← HXL.out] at d1
      rw [hft, List.length_append, ← HZ.out, ← hxl, ← HXL.out] at hle
      have hz2' : z + xl ≤ 1000 := by have := HLL.out; omega
      have HZ2 : Hid (z + xl = (m.take (k + 1)).flatten.length) := Lib.hid (by rw [hft, List.length_append, ← HZ.out, ← hxl, ← HXL.out])
      clear er hc1 hel1 hft hle hxl
      have hd : ¬ ((z : Int) + (xl : Int) < 0) := by omega
      go_wp2
      go_roundw
      case rel => exact ⟨k + 1, z + xl, by omega, by go_num, by go_num, hz2', HZ2, HF⟩
      case measure => show n - ((k : Int) + 1).toNat < n - (k : Int).toNat; omega
    · obtain rfl : k = n := by omega
      obtain ⟨wo, rfl⟩ : ∃ wo : World, wo = wr := ⟨_, rfl⟩
      go_wp2_with fail
      refine (grow_any _ _ (by omega)).mono ?_
      rintro e w1 ⟨v1, rfl, hv1, hn1'⟩
      have HV1 := Lib.hid hv1
      have HF1 : Hid (New wo w1) := Lib.hid hn1'
      have HW2 : Hid (wo.heap.size ≤ w1.heap.size) := Lib.hid hn1'.size
      clear hv1 hn1'
      go_wp2
      go_loopw [6, 8, 27] (fun out _ i wi => ∃ (j l : Nat) (xs : List Value), j ≤ k ∧ i = .int .i64 j ∧ xs.length = l ∧ l ≤ 1000 ∧ Hid (OwnV wo.heap.size 33 wi out xs) ∧ Hid (ElsP (Ts w) xs (m.take j).flatten) ∧ Hid (New wo wi)) (fun _ _ i _ => k - (intOf i).toNat)
      case atStart => exact ⟨0, 0, [], by omega, rfl, rfl, by omega, HV1, Lib.hid (by simpa using ElsP.nil), HF1⟩
      case round =>
        obtain ⟨j, l, xs, hj, rfl, hxl, hl1, HO, HX, HFi⟩ := hrel
        have HXl := Lib.hid hxl
        clear hxl
        by_cases hjt : j < k
        · obtain ⟨b, o, rfl, d1⟩ := (New.cells (HF.out.trans HFi.out) HCL.out).at (k := j) (by have := HN.out; omega)
          obtain ⟨ys, ⟨a1, c1, er, hc1⟩, hel1⟩ := HEL.out.at_ j (by have := HNM.out; omega)
          have hft := flat_take (m := m) (k := j) (by have := HNM.out; omega)
          have hle := flat_take_le m (j + 1)
          have hyl : ys.length = (m.getD j []).length := hel1.len
          have hy1 : 1 ≤ ys.length := by rw [hyl]; exact HR.out j (by have := HNM.out; omega)
          obtain ⟨b2, o2, rfl, _⟩ := (show CellsAt w a1 ys from hc1).at (k := 0) hy1
          obtain ⟨yl, HYL⟩ : ∃ yl, Hid (yl = ys.length) := ⟨_, Lib.hid rfl⟩
          rw [er, ← HYL.out] at d1
          have hxt : xs.length = (m.take j).flatten.length := HX.out.len
          rw [hft, List.length_append, ← hxt, ← hyl, ← HYL.out] at hle
          have hll : l + yl ≤ 1000 := by have := HLL.out; have := HXl.out; omega
          have HE2 : Hid (ElsP (Ts w) (xs ++ ys) (m.take (j + 1)).flatten) := Lib.hid (by rw [hft]; exact ElsP.app HX.out hel1)
          have HC1 : Hid (CellsAt w (some ⟨b2, o2, none⟩) ys) := Lib.hid hc1
          have HY1 := Lib.hid (ts_oneV hel1)
          clear er hc1 hel1 hft hle hyl hy1 hxt
          go_wp2_with (at_builtin; refine wpList_append_own _ rfl _ _ 41 rfl wo.heap.size 33 i0 (.slice none 0 0) 1 24 Tryd.underlying41 hi hz0 hz1 hz2 rfl (by decide) _ xs.length xs rfl HO.out ⟨b2, o2, none⟩ yl c1 ys rfl ?c1 ?c2 ?c3 ?c4 ?c5 ?c6 ?_)
          case c1 => rw [HYL.out, Nat.mul_one]
          case c2 => exact (New.cells (HF.out.trans HFi.out) HC1.out).news
          case c3 => exact HY1.out
          case c4 => have := HXl.out; unfold maxLen; omega
          case c5 => have := HXl.out; omega
          case c6 => exact HFi.out.size
          intro v' w2 hown hgrow _
          have HO2 : Hid (OwnV wo.heap.size 33 w2 v' (xs ++ ys)) := Lib.hid (by unfold OwnV; rw [List.length_append, ← HYL.out]; exact hown)
          have HF2 : Hid (New wo w2) := Lib.hid (HFi.out.grown hgrow fun k ek => .inr (HO.out.lt k ek).1)
          clear hown hgrow
          go_wp2
          go_roundw
          case rel => exact ⟨j + 1, l + yl, xs ++ ys, by omega, by go_num, by rw [List.length_append, HXl.out, ← HYL.out], hll, HO2, HE2, HF2⟩
          case measure => show k - ((j : Int) + 1).toNat < k - (j : Int).toNat; omega
        · obtain rfl : j = k := by omega
          go_wp2
          go_ret
          have e : m.take j = m := List.take_of_length_le (by have := HNM.out; omega)
          exact ⟨_, rfl, ⟨xs, HO.out.sl, by have := HX.out; rw [e] at this; exact this.mono fun _ _ h => New.ts (HF.out.trans HFi.out) h⟩, HF.out.trans HFi.out⟩
end Go.Proofs.YtdelekkbkpldjaaDoor
