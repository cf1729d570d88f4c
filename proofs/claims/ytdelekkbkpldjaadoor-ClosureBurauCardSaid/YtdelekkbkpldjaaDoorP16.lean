/- Walks: Det's second question, of places that are too large. -/
import Derived.Test.YtdelekkbkpldjaaDoorP15
/- Walks: Det's second question, of places that are too large. -/
namespace Go.Proofs.YtdelekkbkpldjaaDoor
open Go.RowKit Go.Maps

def AllMy (w : World) (vs : List Value) : Prop := ∀ i, i < vs.length → ∃ l, Ts w (vs.getD i undef) l ∧ Pl.May l
set_option maxHeartbeats 400000 in
theorem bigB_any (v : Value) (l : List Pl.T) (w : World) (hx : Ts w v l) (hm : Pl.May l) :
    Calls Tryd.prog 39 #[v] w fun e w' => e = .returned (.bool (decide (100 < Pl.size l))) ∧ New w w' := by
  have CC := Lib.hid (size_any v l w hx hm)
  obtain ⟨s, HS⟩ : ∃ s, Hid (s = Pl.size l) := ⟨_, Lib.hid rfl⟩
  rw [← HS.out] at CC
  clear hx hm
  go_enter Tryd.func39, Tryd.ntmps39
  go_wp2_with fail
  refine CC.out.mono ?_
  rintro e w1 ⟨rfl, hn1⟩
  have HN := Lib.hid hn1
  clear hn1
  have hd : decide ((100 : Int) < (s : Int)) = decide (100 < s) := by rw [decide_eq_decide]; omega
  go_wp2
  go_ret
  exact ⟨by first | rfl | (rw [← HS.out]; simp) | (rw [← HS.out, hd]), HN.out⟩

set_option maxHeartbeats 1000000 in
theorem maysY_any (v : Value) (vs : List Value) (w : World) (hv : SlAt w v vs) (hr : AllMy w vs) (hl : vs.length ≤ 1000) :
    Calls Tryd.prog 55 #[v, .func (.func 37) #[] #[]] w fun e w' => e = .returned (.int .i64 (-1)) ∧ New w w' := by
  obtain ⟨a, c, rfl, hx⟩ := hv
  obtain ⟨n, hn⟩ : ∃ n, n = vs.length := ⟨_, rfl⟩
  rw [← hn] at hl ⊢
  have HN := Lib.hid hn
  have HX : Hid (CellsAt w a vs) := Lib.hid hx
  have HR := Lib.hid hr
  clear hn hx hr
  go_enter Tryd.func55, Tryd.ntmps55
  go_wp2
  go_loopw [5, 8] (fun _ i wr => ∃ k : Nat, k ≤ n ∧ i = .int .i64 k ∧ Hid (New w wr)) (fun _ i _ => n - (intOf i).toNat)
  case atStart => exact ⟨0, by omega, rfl, Lib.hid (Fr.refl _ _)⟩
  case round =>
    obtain ⟨k, hk, rfl, HF⟩ := hrel
    by_cases hlt : k < n
    · have hkl : k < vs.length := by have := HN.out; omega
      obtain ⟨b, o, rfl, d1⟩ := (New.cells HF.out HX.out).at hkl
      obtain ⟨l, ht, hm⟩ := HR.out k hkl
      obtain ⟨x, HXk⟩ : ∃ x, Hid (x = vs.getD k undef) := ⟨_, Lib.hid rfl⟩
      rw [← HXk.out] at d1 ht
      have CC := Lib.hid (notMay_any x l wr (HF.out.ts ht) hm)
      clear ht hm
      go_wp2_with fail
      refine CC.out.mono ?_
      rintro e w1 ⟨rfl, hn1⟩
      have HF1 : Hid (New w w1) := Lib.hid (HF.out.trans hn1)
      clear hn1
      go_wp2
      go_roundw
      case rel => exact ⟨k + 1, by omega, by go_num, HF1⟩
      case measure => simp [intOf]; omega
    · go_wp2
      go_ret
      exact ⟨rfl, HF.out⟩
set_option maxHeartbeats 400000 in
theorem maysCY_any (v : Value) (vs : List Value) (w : World) (hv : SlAt w v vs) (hr : AllMy w vs) (hl : vs.length ≤ 1000) :
    Calls Tryd.prog 36 #[v, .func (.func 37) #[] #[]] w fun e w' => e = .returned (.bool false) ∧ New w w' := by
  have CC := Lib.hid (maysY_any v vs w hv hr hl)
  clear hv hr
  go_enter Tryd.func36, Tryd.ntmps36
  go_wp2_with fail
  refine CC.out.mono ?_
  rintro e w1 ⟨rfl, hn1⟩
  have HN := Lib.hid hn1
  clear hn1
  go_wp2
  go_ret
  exact ⟨rfl, HN.out⟩

set_option maxHeartbeats 1000000 in
theorem bigsG_any (v : Value) (vs : List Value) (w : World) (hv : SlAt w v vs) (ls : List (List Pl.T)) (hr : ElsP (Ts w) vs ls) (hmy : ∀ l ∈ ls, Pl.May l) (hbg : ∃ l ∈ ls, 100 < Pl.size l) (hl : vs.length ≤ 1000) :
    Calls Tryd.prog 55 #[v, .func (.func 39) #[] #[]] w fun e w' => (∃ r : Nat, r ≤ 1000 ∧ e = .returned (.int .i64 r)) ∧ New w w' := by
  obtain ⟨a, c, rfl, hx⟩ := hv
  obtain ⟨n, hn⟩ : ∃ n, n = vs.length := ⟨_, rfl⟩
  rw [← hn] at hl ⊢
  have HN := Lib.hid hn
  have HX : Hid (CellsAt w a vs) := Lib.hid hx
  have HR := Lib.hid hr
  have HMY := Lib.hid hmy
  have HBG := Lib.hid hbg
  clear hn hx hr hmy hbg
  go_enter Tryd.func55, Tryd.ntmps55
  go_wp2
  go_loopw [5, 8] (fun _ i wr => ∃ k : Nat, k ≤ n ∧ i = .int .i64 k ∧ Hid (∀ q, q < k → Pl.size (ls.getD q []) ≤ 100) ∧ Hid (New w wr)) (fun _ i _ => n - (intOf i).toNat)
  case atStart => exact ⟨0, by omega, rfl, Lib.hid fun q hq => absurd hq (by omega), Lib.hid (Fr.refl _ _)⟩
  case round =>
    obtain ⟨k, hk, rfl, HSM, HF⟩ := hrel
    by_cases hlt : k < n
    · have hkl : k < vs.length := by have := HN.out; omega
      obtain ⟨b, o, rfl, d1⟩ := (New.cells HF.out HX.out).at hkl
      have hkL : k < ls.length := by rw [← HR.out.len]; exact hkl
      have ht := HR.out.at_ k hkL
      obtain ⟨l, HLl⟩ : ∃ l, Hid (l = ls.getD k []) := ⟨_, Lib.hid rfl⟩
      have hm : Pl.May l := HMY.out l (by rw [HLl.out, List.getD_eq_getElem?_getD, List.getElem?_eq_getElem hkL]; exact List.getElem_mem hkL)
      obtain ⟨x, HXk⟩ : ∃ x, Hid (x = vs.getD k undef) := ⟨_, Lib.hid rfl⟩
      have ht' : Ts w (vs.getD k undef) (ls.getD k []) := ht
      rw [← HXk.out, ← HLl.out] at ht'
      rw [← HXk.out] at d1
      have CC := Lib.hid (bigB_any x l wr (HF.out.ts ht') hm)
      by_cases hs : 100 < Pl.size l
      · rw [decide_eq_true hs] at CC
        clear ht ht' hm
        go_wp2_with fail
        refine CC.out.mono ?_
        rintro e w1 ⟨rfl, hn1⟩
        have HF1 : Hid (New w w1) := Lib.hid (HF.out.trans hn1)
        clear hn1
        go_wp2
        go_ret
        exact ⟨⟨k, by omega, rfl⟩, HF1.out⟩
      · rw [decide_eq_false hs] at CC
        clear ht ht' hm
        go_wp2_with fail
        refine CC.out.mono ?_
        rintro e w1 ⟨rfl, hn1⟩
        have HF1 : Hid (New w w1) := Lib.hid (HF.out.trans hn1)
        clear hn1
        go_wp2
        go_roundw
        case rel => exact ⟨k + 1, by omega, by go_num, Lib.hid fun q hq => by
          by_cases c : q = k
          · rw [c, ← HLl.out]; omega
          · exact HSM.out q (by omega), HF1⟩
        case measure => simp [intOf]; omega
    · exfalso
      obtain ⟨l, hl1, hl2⟩ := HBG.out
      obtain ⟨q, hq, rfl⟩ := List.mem_iff_getElem.1 hl1
      have hqn : q < k := by have := HN.out; have := HR.out.len; omega
      have := HSM.out q hqn
      rw [List.getD_eq_getElem?_getD, List.getElem?_eq_getElem hq] at this
      have h3 : Pl.size ls[q] ≤ 100 := this
      omega
set_option maxHeartbeats 400000 in
theorem bigsCG_any (v : Value) (vs : List Value) (w : World) (hv : SlAt w v vs) (ls : List (List Pl.T)) (hr : ElsP (Ts w) vs ls) (hmy : ∀ l ∈ ls, Pl.May l) (hbg : ∃ l ∈ ls, 100 < Pl.size l) (hl : vs.length ≤ 1000) :
    Calls Tryd.prog 36 #[v, .func (.func 39) #[] #[]] w fun e w' => e = .returned (.bool true) ∧ New w w' := by
  have CC := Lib.hid (bigsG_any v vs w hv ls hr hmy hbg hl)
  clear hv hr hmy hbg
  go_enter Tryd.func36, Tryd.ntmps36
  go_wp2_with fail
  refine CC.out.mono ?_
  rintro e w1 ⟨⟨r, hr, rfl⟩, hn1⟩
  have hr0 : (0 : Int) ≤ (r : Int) := by omega
  have HN := Lib.hid hn1
  clear hn1
  go_wp2
  go_ret
  exact ⟨rfl, HN.out⟩
end Go.Proofs.YtdelekkbkpldjaaDoor

/- Walks: Det of a table with a place that is too large. -/
namespace Go.Proofs.YtdelekkbkpldjaaDoor
open Go.RowKit Go.Maps

structure SqY (m : Pl.Tab) (L : Nat) : Prop where
  le : L ≤ 6
  rows : m.length = L
  cols : ∀ i, i < L → (m.getD i []).length = L
  ent : ∀ i j, i < L → j < L → Pl.May (Pl.ent m i j) ∧ (Pl.ent m i j).length ≤ 17
/- the flattened table -/
theorem sqy_flat_len {m : Pl.Tab} {L : Nat} (h : SqY m L) : ∀ k, k ≤ L → (m.take k).flatten.length = k * L
  | 0, _ => by simp
  | k + 1, hk => by
    rw [flat_take (by rw [h.rows]; omega), List.length_append, sqy_flat_len h k (by omega), h.cols k (by omega), Nat.add_mul, Nat.one_mul]
theorem sqy_total {m : Pl.Tab} {L : Nat} (h : SqY m L) : m.flatten.length ≤ 1000 := by
  have h1 := sqy_flat_len h L (Nat.le_refl _)
  rw [List.take_of_length_le (by rw [h.rows]; exact Nat.le_refl _)] at h1
  have h2 : L * L ≤ 6 * 6 := Nat.mul_le_mul h.le h.le
  omega
theorem sqy_mem {m : Pl.Tab} {L : Nat} (h : SqY m L) {l : List Pl.T} (hl : l ∈ m.flatten) : Pl.May l ∧ l.length ≤ 17 := by
  obtain ⟨r, hr, hlr⟩ := List.mem_flatten.1 hl
  obtain ⟨i, hi, rfl⟩ := List.mem_iff_getElem.1 hr
  obtain ⟨j, hj, rfl⟩ := List.mem_iff_getElem.1 hlr
  have hi' : i < L := by rw [← h.rows]; exact hi
  have e1 : m.getD i [] = m[i] := by rw [List.getD_eq_getElem?_getD, List.getElem?_eq_getElem hi]; rfl
  have hj' : j < L := by rw [← h.cols i hi', e1]; exact hj
  have e2 : Pl.ent m i j = m[i][j] := by unfold Pl.ent; rw [e1, List.getD_eq_getElem?_getD, List.getElem?_eq_getElem hj]; rfl
  rw [← e2]
  exact h.ent i j hi' hj'
theorem allMy_of {w : World} {vs : List Value} {m : Pl.Tab} {L : Nat} (h : SqY m L) (he : ElsP (Ts w) vs m.flatten) : AllMy w vs := by
  intro i hi
  rw [he.len] at hi
  have h1 := he.at_ i hi
  rw [List.getD_eq_getElem?_getD (l := m.flatten), List.getElem?_eq_getElem hi] at h1
  have h2 := sqy_mem h (List.getElem_mem hi)
  exact ⟨_, h1, h2.1⟩
theorem rowsy_long {w : World} {vs : List Value} {m : Pl.Tab} {L p : Nat} (h : SqY m L) (he : ElsP (RowT w) vs m) {a : Option Addr} {c : Nat} (hp : w.cell? ⟨p, 0, none⟩ = some (.slice a L c)) : RowsLong w vs p L := by
  refine ⟨by have := h.le; omega, ⟨a, c, hp⟩, fun i hi => ?_⟩
  rw [he.len] at hi
  obtain ⟨xs, ⟨a1, c1, er, _⟩, h2⟩ := he.at_ i hi
  refine ⟨a1, c1, ?_⟩
  have e : xs.length = L := by
    rw [h2.len]
    exact h.cols i (by rw [← h.rows]; exact hi)
  rw [er, e]

set_option maxRecDepth 100000 in
set_option maxHeartbeats 2000000 in
theorem detR_any (v : Value) (m : Pl.Tab) (L : Nat) (w : World) (hm : TabT w v m) (hq : SqY m L) (hbg : ∃ l ∈ m.flatten, 100 < Pl.size l) :
    Calls Tryd.prog 16 #[v] w (fun e w' => e = .returned (.tuple #[.slice none 0 0, .int .i64 3]) ∧ New w w') := by
  have HTT := Lib.hid hm
  obtain ⟨vs, ⟨a, c, rfl, hcl⟩, hel⟩ := hm
  have hvl : vs.length = L := by rw [hel.len, hq.rows]
  rw [hvl] at HTT ⊢
  have hL := hq.le
  have HVL := Lib.hid hvl
  have HCL : Hid (CellsAt w a vs) := Lib.hid hcl
  have HEL := Lib.hid hel
  have HQ := Lib.hid hq
  have HBG := Lib.hid hbg
  clear hvl hcl hel hq hbg
  obtain ⟨p, HPe⟩ : ∃ p, Hid (p = w.heap.size) := ⟨_, Lib.hid rfl⟩
  obtain ⟨w1, HW1⟩ : ∃ w1, Hid (w1 = w.alloc (.cells #[.slice a L c] 38)) := ⟨_, Lib.hid rfl⟩
  have HN1 : Hid (New w w1) := Lib.hid (by rw [HW1.out]; exact (Fr.refl _ _).alloc _)
  have cp : w1.cell? ⟨p, 0, none⟩ = some (.slice a L c) := by rw [HW1.out, HPe.out]; exact one_new _ _ _
  have HCP := Lib.hid cp
  obtain ⟨i1, hi1, hz10, hz11, hz12⟩ := info_parts info64
  obtain ⟨i0, hi, hz0, hz1, hz2⟩ := info_parts info73
  go_enter Tryd.func16, Tryd.ntmps16
  go_wp2_with fail
  rw [← HW1.out, ← HPe.out]
  have HS1 : Hid (SlAt w1 (.slice a L c) vs) := Lib.hid ⟨a, c, by rw [HVL.out], HN1.out.cells HCL.out⟩
  refine (lensC_any _ vs _ p L HS1.out (rowsy_long HQ.out (HEL.out.mono fun _ _ x => HN1.out.rowT x) HCP.out) (by have := HVL.out; omega)).mono ?_
  rintro e w2 ⟨rfl, hn2⟩
  have HN2 : Hid (New w w2) := Lib.hid (HN1.out.trans hn2)
  have cp2 := hn2.cell HCP.out fun x => x
  have HCP2 := Lib.hid cp2
  clear hn2 cp
  go_wp2_with fail
  refine (concat_any _ m _ (HN2.out.tabT HTT.out) (sqy_total HQ.out) (by rw [HQ.out.rows]; omega) (fun i hi => by rw [HQ.out.rows] at hi; rw [HQ.out.cols i hi]; omega)).mono ?_
  rintro e w3 ⟨v3, rfl, ⟨ws, hs3, he3⟩, hn3⟩
  have HN3 : Hid (New w w3) := Lib.hid (HN2.out.trans hn3)
  have cp3 := hn3.cell HCP2.out fun x => x
  have HCP3 := Lib.hid cp3
  have HS3 := Lib.hid hs3
  have HE3 := Lib.hid he3
  have HWL : Hid (ws.length ≤ 1000) := Lib.hid (by rw [he3.len]; exact sqy_total HQ.out)
  clear hs3 he3 hn3 cp2
  go_wp2_with fail
  refine (maysCY_any _ ws _ HS3.out (allMy_of HQ.out HE3.out) HWL.out).mono ?_
  rintro e w4 ⟨rfl, hn4⟩
  have HN4 : Hid (New w w4) := Lib.hid (HN3.out.trans hn4)
  have HN34 := Lib.hid hn4
  have cp4 := hn4.cell HCP3.out fun x => x
  have HCP4 := Lib.hid cp4
  clear hn4 cp3
  go_wp2_with fail
  refine (bigsCG_any _ ws _ (HN34.out.sl HS3.out) m.flatten (HE3.out.mono fun _ _ x => HN34.out.ts x) (fun l hl => (sqy_mem HQ.out hl).1) HBG.out HWL.out).mono ?_
  rintro e w5 ⟨rfl, hn5⟩
  have HN5 : Hid (New w w5) := Lib.hid (HN4.out.trans hn5)
  clear hn5 cp4
  go_wp2
  go_ret2
  exact ⟨rfl, HN5.out⟩
end Go.Proofs.YtdelekkbkpldjaaDoor
