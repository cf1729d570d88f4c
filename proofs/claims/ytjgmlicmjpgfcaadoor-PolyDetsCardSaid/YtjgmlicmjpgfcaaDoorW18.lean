/- Walks: plus once more, what it gives being a row of the call's own; the tables of PolyDets, their bounds. -/
import Derived.Test.YtjgmlicmjpgfcaaDoorW17
import Derived.Test.YtjgmlicmjpgfcaaDoorW10
import Derived.Test.YtjgmlicmjpgfcaaDoorMDet2
namespace Go.Proofs.YtjgmlicmjpgfcaaDoor
open Go.RowKit Go.Maps Go.Sort Go.Shelf

def GaveFormO (l : List Pl.T) (w : World) (e : Ending) (w' : World) : Prop := ∃ m, Pl.Is m l ∧ ∃ v, e = .returned v ∧ OwnT 0 w' v m ∧ New w w'
def GavePairO (l : List Pl.T) (w : World) (e : Ending) (w' : World) : Prop := ∃ m v, Pl.Is m l ∧ e = .returned (.tuple #[v, .int .i64 0]) ∧ OwnT 0 w' v m ∧ New w w'
set_option maxRecDepth 100000 in
set_option maxHeartbeats 1000000 in
theorem formOwn_any (v : Value) (l : List Pl.T) (n : Nat) (w : World) (hw : Wk w v l n) (hn : n ≤ 1000000) :
    Calls Tryd.prog 17 #[v] w (GaveFormO l w) := by
  obtain ⟨b, D, rfl, ho, hd⟩ := hw
  have hsz := ho.size
  have hc := sortedC_any b n D w ho (by unfold maxLen; omega) (by omega)
  have HO := Lib.hid ho
  have HD := Lib.hid hd
  have HC := Lib.hid hc
  have HK := Lib.hid (keys_facts ho)
  clear ho hd hc
  obtain ⟨wm, HWM⟩ : ∃ wm, Hid (wm = w.alloc (.cells #[.map (some b)] 45)) := ⟨_, Lib.hid rfl⟩
  have HFm : Hid (New w wm) := Lib.hid (by rw [HWM.out]; exact (Fr.refl _ _).alloc _)
  obtain ⟨i0, hi, hz0, hz1, hz2⟩ := info_parts info26
  go_enter Tryd.func17, Tryd.ntmps17
  go_wp2_with fail
  refine (keysC_any _ _).mono ?_
  rintro e w0 ⟨rfl, hw0⟩
  rw [← HWM.out] at hw0
  subst hw0
  go_wp2_with fail
  rw [← HWM.out] at HC
  refine HC.out.mono ?_
  rintro e w1 ⟨vs, ss, rfl, hp, hrow, hB⟩
  have hus := up_sorted HO.out hp
  have hrow' := hrow
  obtain ⟨ks, HKS⟩ : ∃ ks, Hid (ks = ss.mergeSort leI) := ⟨_, Lib.hid rfl⟩
  have hlen := List.length_mergeSort (le := leI) ss
  rw [← HKS.out] at hlen
  have hrow2 : w1.ownsRow w0.heap.size 3 1 vs ss.length (ks.map encZ) := by rw [HKS.out]; exact hrow
  obtain ⟨a, c, rfl, hkl, hi1⟩ := ints_of_own hrow2
  rw [← HKS.out] at hus
  obtain ⟨kn, HKN⟩ : ∃ kn, Hid (kn = ks.length) := ⟨_, Lib.hid rfl⟩
  rw [hkl, ← HKN.out]
  have hkn : kn ≤ 1000000 := by
    rw [HKN.out, ← hkl, hp.length_eq, HK.out.2.2]
    omega
  have HU := Lib.hid hus
  have HI := Lib.hid hi1
  have HF1 : Hid (New w w1) := Lib.hid (HFm.out.trans (Fr.ofBelow hB _))
  have HO1 := Lib.hid (New.om HF1.out HO.out)
  clear hus hi1 hB hrow hrow' hrow2 hlen hkl hp hsz
  go_wp2
  go_loopw [3, 5, 10] (fun v _ i wr => ∃ (k m : Nat) (lo : List Pl.T), k ≤ kn ∧ i = .int .i64 k ∧ lo.length = m ∧ m ≤ k ∧ Hid (lo = Pl.ofMap (Pl.co l) (ks.take k)) ∧ Hid (OwnT w1.heap.size wr v lo) ∧ Hid (New w1 wr)) (fun _ _ i _ => kn - (intOf i).toNat)
  case atStart => exact ⟨0, 0, [], by omega, rfl, rfl, by omega, Lib.hid (by rw [List.take_zero]; rfl), Lib.hid (OwnT.nil_ _ _), Lib.hid (Fr.refl _ _)⟩
  case round =>
    obtain ⟨k, m, lo, hk, rfl, hm, hmk, HL, HOT, HF2⟩ := hrel
    have HF : Hid (New w wr) := Lib.hid (HF1.out.trans HF2.out)
    have HM := Lib.hid hm
    clear hm
    by_cases hlt : k < kn
    · have hkl : k < ks.length := by have := HKN.out; omega
      obtain ⟨b1, o1, rfl, d1⟩ := (New.ints HF2.out HI.out).at hkl
      have hs := ofMap_take (Pl.co l) hkl
      obtain ⟨x, HX⟩ : ∃ x, Hid (x = ks.getD k 0) := ⟨_, Lib.hid rfl⟩
      have hx := intKeys_wf (H := Unit) HO.out Tryd.underlying3 x (by
        rw [(keys_facts HO.out).2.1, ← HU.out.2, HX.out, List.getD_eq_getElem?_getD, List.getElem?_eq_getElem hkl]
        exact List.getElem_mem hkl)
      rw [← HX.out, ← HL.out] at hs
      rw [← HX.out] at d1
      obtain ⟨q, HQ⟩ : ∃ q, Hid (q = Pl.co l x) := ⟨_, Lib.hid rfl⟩
      rw [← HQ.out] at hs
      have HS := Lib.hid hs
      have HOr := Lib.hid (New.om HF.out HO.out)
      have HXW := Lib.hid hx
      clear hs hx
      by_cases hq : q = 0
      · go_wp2_with (first
          | (at_lookup; refine wpList_lookup_own_int _ rfl _ _ 45 rfl 3 3 .i64 law3 ul45 Tryd.underlying3 (zero3 _) b n _ rfl HOr.out _ _ rfl (Maps.keyOf_int_mk Tryd.underlying3 HXW.out) ?_; intro cc hat hwc; have HCC : Hid (cc = q) := (Lib.hid ((HD.out.look hat).trans HQ.out.symm)); have hc0 : (cc != 0) = false := (ne_no (HCC.out.trans hq)); clear hat hwc)
          | go_in)
        go_roundw
        case rel => exact ⟨k + 1, m, lo, by omega, by go_num, HM.out, by omega, Lib.hid (by rw [HS.out, if_pos hq]; simp), HOT, HF2⟩
        case measure => show kn - ((k : Int) + 1).toNat < kn - (k : Int).toNat; omega
      · go_wp2_with (first
          | (at_lookup; refine wpList_lookup_own_int _ rfl _ _ 45 rfl 3 3 .i64 law3 ul45 Tryd.underlying3 (zero3 _) b n _ rfl HOr.out _ _ rfl (Maps.keyOf_int_mk Tryd.underlying3 HXW.out) ?_; intro cc hat hwc; have HCC : Hid (cc = q) := (Lib.hid ((HD.out.look hat).trans HQ.out.symm)); have hc0 : (cc != 0) = true := (ne_yes (fun z => hq (HCC.out.symm.trans z))); clear hat hwc)
          | (at_builtin; refine wpList_append_own _ rfl _ _ 23 rfl w1.heap.size 26 i0 (.agg #[.int .i64 0, .int .i64 0]) 2 16 Tryd.underlying23 hi hz0 hz1 hz2 rfl (by decide) _ lo.length (cellsT lo) rfl (World.ownsRow.alloc HOT.out _) ⟨_, 0, none⟩ 1 1 [.int .i64 x, .int .i64 cc] rfl rfl (cell_two_new _ _ _ _) (two_ints _ _) (by have := HM.out; unfold maxLen; omega) (by have := HM.out; omega) (by have := HF2.out.size; simp; omega) ?_; intro v' w3 hown hgrow _)
          | go_in)
        have HO3 := Lib.hid (OwnT.snoc hown)
        have HF3 : Hid (New w1 w3) := Lib.hid (New.appended HF2.out HOT.out hgrow)
        clear hown hgrow
        go_wp2
        go_roundw
        case rel => exact ⟨k + 1, m + 1, lo ++ [(x, cc)], by omega, by go_num, by simp [HM.out], by omega, Lib.hid (by rw [HS.out, if_neg hq, HCC.out]), HO3, HF3⟩
        case measure => show kn - ((k : Int) + 1).toNat < kn - (k : Int).toNat; omega
    · obtain rfl : k = kn := by omega
      go_wp2
      go_ret
      have e : ks.take k = ks := by rw [HKN.out]; exact List.take_length
      exact ⟨lo, by rw [HL.out, e]; exact form_is HD.out HU.out.1 HU.out.2, _, rfl, HOT.out.base0, HF.out⟩
set_option maxRecDepth 100000 in
set_option maxHeartbeats 1000000 in
theorem both28Own_any (va vb : Value) (la lb : List Pl.T) (w : World) (ha : Ts w va la) (hb : Ts w vb lb) (ma : Pl.May la) (mb : Pl.May lb) :
    Calls Tryd.prog 27 #[va, vb, .func (.func 28) #[] #[]] w (GavePairO (la ++ lb) w) := by
  have HA := Lib.hid ha
  have HB := Lib.hid hb
  have MA := Lib.hid ma
  have MB := Lib.hid mb
  clear ha hb ma mb
  go_enter Tryd.func27, Tryd.ntmps27
  go_wp2_with fail
  refine (may_any _ la _ HA.out MA.out).mono ?_
  rintro e w1 ⟨rfl, hn1⟩
  have HF1 := Lib.hid hn1
  clear hn1
  go_wp2_with fail
  refine (may_any _ lb _ (New.ts HF1.out HB.out) MB.out).mono ?_
  rintro e w2 ⟨rfl, hn2⟩
  have HF2 := Lib.hid (HF1.out.trans hn2)
  clear hn2
  go_wp2_with fail
  refine (of_any _ la _ (New.ts HF2.out HA.out) (by have := MA.out.1; omega) (may_exps MA.out) (by have := may_size MA.out; omega)).mono ?_
  rintro e w3 ⟨x, rfl, hx, hn3⟩
  have HF3 := Lib.hid (HF2.out.trans hn3)
  have HX := Lib.hid hx
  clear hn3 hx
  go_wp2_with fail
  refine (of_any _ lb _ (New.ts HF3.out HB.out) (by have := MB.out.1; omega) (may_exps MB.out) (by have := may_size MB.out; omega)).mono ?_
  rintro e w4 ⟨y, rfl, hy, hn4⟩
  have HF4 := Lib.hid (HF3.out.trans hn4)
  have HX4 := Lib.hid (New.wk hn4 HX.out)
  have HY := Lib.hid hy
  clear hn4 hy
  go_wp2_with fail
  refine (plusW_any _ _ la lb la.length lb.length _ HX4.out HY.out (by have := MA.out.1; have := MB.out.1; omega) (may_exps MB.out) (by have := may_size MA.out; have := may_size MB.out; omega)).mono ?_
  rintro e w5 ⟨z, rfl, hz, hn5⟩
  have HF5 := Lib.hid (HF4.out.trans hn5)
  have HZ := Lib.hid hz
  clear hn5 hz
  go_wp2_with fail
  refine (formOwn_any _ _ _ _ HZ.out (by have := MA.out.1; have := MB.out.1; omega)).mono ?_
  rintro e w6 ⟨m, hm, v, rfl, hv, hn6⟩
  have HF6 := Lib.hid (HF5.out.trans hn6)
  have HM := Lib.hid hm
  have HV := Lib.hid hv
  clear hn6 hm hv
  go_wp2
  go_ret2
  exact ⟨m, v, HM.out, rfl, HV.out, HF6.out⟩

set_option maxHeartbeats 400000 in
theorem addOwn_any (va vb : Value) (la lb : List Pl.T) (w : World) (ha : Ts w va la) (hb : Ts w vb lb) (ma : Pl.May la) (mb : Pl.May lb) :
    Calls Tryd.prog 14 #[va, vb] w (GavePairO (la ++ lb) w) := by
  have CC := Lib.hid (both28Own_any va vb la lb w ha hb ma mb)
  clear ha hb ma mb
  go_enter Tryd.func14, Tryd.ntmps14
  go_wp2_with fail
  refine CC.out.mono ?_
  rintro e w1 ⟨m, v, hm, rfl, hv, hn⟩
  have HM := Lib.hid hm
  have HV := Lib.hid hv
  have HN := Lib.hid hn
  clear hm hv hn
  go_wp2
  go_ret2
  exact ⟨m, v, HM.out, rfl, HV.out, HN.out⟩

set_option maxHeartbeats 400000 in
theorem plusOwn_any (va vb : Value) (la lb : List Pl.T) (w : World) (ha : Ts w va la) (hb : Ts w vb lb) (ma : Pl.May la) (mb : Pl.May lb) :
    Calls Tryd.prog 7 #[va, vb] w (GaveFormO (la ++ lb) w) := by
  have CC := Lib.hid (addOwn_any va vb la lb w ha hb ma mb)
  clear ha hb ma mb
  go_enter Tryd.func7, Tryd.ntmps7
  go_wp2_with fail
  refine CC.out.mono ?_
  rintro e w1 ⟨m, v, hm, rfl, hv, hn⟩
  have HM := Lib.hid hm
  have HV := Lib.hid hv
  have HN := Lib.hid hn
  clear hm hv hn
  go_wp2
  go_ret
  exact ⟨m, HM.out, v, rfl, HV.out, HN.out⟩


theorem plusOG (va vb : Value) (la lb : List Pl.T) (N : Int) (S S' : Nat) (w : World) (ha : Ts w va la) (hb : Ts w vb lb) (ga : G N S la) (gb : G N S' lb) (hN : N ≤ 31) (hS : S ≤ 1000000) (hS' : S' ≤ 1000000) :
    Calls Tryd.prog 7 #[va, vb] w fun e w' => ∃ m v, Pl.Is m (la ++ lb) ∧ G N (S + S') m ∧ e = .returned v ∧ OwnT 0 w' v m ∧ New w w' := by
  refine (plusOwn_any va vb la lb w ha hb (ga.may hN hS) (gb.may hN hS')).mono ?_
  rintro e w' ⟨m, hm, v, rfl, hv, hn⟩
  have hi := Pl.in_app ga.2 gb.2
  rw [Int.max_self] at hi
  exact ⟨m, v, hm, ⟨hm.1, Pl.in_form hm.1 hm.2 hi⟩, rfl, hv, hn⟩

/- the entries of a table -/
theorem adj_bd (c : Int) : adj c ≠ 0 ∧ -2 ≤ adj c ∧ adj c ≤ 2 := by
  have h1 : c.tmod 3 < 3 := Int.tmod_lt_of_pos _ (by omega)
  have h2 : -3 < c.tmod 3 := by
    have := Int.tmod_lt_of_pos (-c) (b := 3) (by omega)
    rw [Int.neg_tmod] at this
    omega
  unfold adj
  split <;> omega
theorem cl_form : ∀ {l : List Pl.T} (k : Nat), Pl.Form l → Pl.Form ((l.take k).map adjT)
  | [], k, _ => by cases k <;> exact trivial
  | t :: l, 0, _ => trivial
  | t :: l, k + 1, h => by
    rw [List.take_succ_cons, List.map_cons]
    refine ⟨(adj_bd t.2).1, fun u hu => ?_, cl_form k h.2.2⟩
    obtain ⟨v, hv, rfl⟩ := List.mem_map.1 hu
    exact h.2.1 v (List.mem_of_mem_take hv)
theorem cl_in {l : List Pl.T} {S : Nat} (h : Pl.In 4 S l) : Pl.In 4 4 (cl l) := by
  refine ⟨fun t ht => ?_, ?_⟩
  · obtain ⟨v, hv, rfl⟩ := List.mem_map.1 ht
    exact h.1 v (List.mem_of_mem_take hv)
  · have h1 := size_len (l := cl l) (S := 2) fun t ht => by
      obtain ⟨v, hv, rfl⟩ := List.mem_map.1 ht
      have := adj_bd v.2
      show (adj v.2).natAbs ≤ 2
      omega
    have h2 : (cl l).length ≤ 2 := by unfold cl; rw [List.length_map, List.length_take]; omega
    have h3 : (cl l).length * 2 ≤ 2 * 2 := Nat.mul_le_mul_right _ h2
    omega
theorem entry_G (rs : List (List Int)) (q : Nat) : G 4 4 (entry rs q) := by
  unfold entry
  split
  · exact ⟨cl_form 2 (sm_in _).1, cl_in (sm_in _).2⟩
  · exact ⟨trivial, fun t ht => (by cases ht), by decide⟩
theorem nil_G (N : Int) (S : Nat) : G N S [] := ⟨trivial, fun t ht => (by cases ht), Nat.zero_le _⟩
theorem rowOf_len (rs : List (List Int)) (r : Nat) : ∀ k, (rowOf rs r k).length = k
  | 0 => rfl
  | k + 1 => by show (rowOf rs r k ++ _).length = _; rw [List.length_append, rowOf_len rs r k]; rfl
theorem tabOf_len (rs : List (List Int)) : ∀ k, (tabOf rs k).length = k
  | 0 => rfl
  | k + 1 => by show (tabOf rs k ++ _).length = _; rw [List.length_append, tabOf_len rs k]; rfl
/- all entries of a table have it, and so has the empty one -/
theorem tab_ent (rs : List (List Int)) (i j : Nat) : G 4 4 (Pl.ent (tabOf rs 3) i j) := by
  have h1 : ∀ k j, G 4 4 ((rowOf rs i k).getD j []) := by
    intro k j
    induction k with
    | zero => exact nil_G _ _
    | succ k ih =>
      show G 4 4 ((rowOf rs i k ++ [_]).getD j [])
      rw [List.getD_eq_getElem?_getD, List.getElem?_append]
      split
      · rw [← List.getD_eq_getElem?_getD]; exact ih
      · rcases j - (rowOf rs i k).length with _ | z
        · exact entry_G _ _
        · exact nil_G _ _
  have h2 : ∀ k, (tabOf rs k).getD i [] = if i < k then rowOf rs i 3 else [] := by
    intro k
    induction k with
    | zero => rfl
    | succ k ih =>
      show (tabOf rs k ++ [_]).getD i [] = _
      rw [List.getD_eq_getElem?_getD, List.getElem?_append, tabOf_len]
      by_cases c : i < k
      · rw [if_pos c, ← List.getD_eq_getElem?_getD, ih, if_pos c, if_pos (by omega)]
      · rw [if_neg c]
        by_cases c2 : i = k
        · subst c2; simp
        · rw [if_neg (by omega)]
          obtain ⟨z, hz⟩ : ∃ z, i - k = z + 1 := ⟨i - k - 1, by omega⟩
          rw [hz]; rfl
  unfold Pl.ent
  rw [h2]
  split
  · exact h1 3 j
  · exact nil_G _ _
theorem tab_row (rs : List (List Int)) {i : Nat} (hi : i < 3) : ((tabOf rs 3).getD i []).length = 3 := by
  have : i = 0 ∨ i = 1 ∨ i = 2 := by omega
  rcases this with rfl | rfl | rfl <;> exact rowOf_len _ _ _
theorem G.length {N : Int} {S : Nat} {l : List Pl.T} (h : G N S l) (hN : N ≤ 8) : l.length ≤ 17 := by
  have := Pl.form_length h.1 h.2.1
  omega
theorem within_of {m : Pl.Tab} {N : Int} {S : Nat} (h : ∀ i j, G N S (Pl.ent m i j)) : Pl.Within m S N := fun i j => ⟨(h i j).2.2, (h i j).2.1⟩
theorem within_mono {m : Pl.Tab} {N N' : Int} {S S' : Nat} (h : Pl.Within m S N) (hN : N ≤ N') (hS : S ≤ S') : Pl.Within m S' N' := fun i j => ⟨Nat.le_trans (h i j).1 hS, fun t ht => by have := (h i j).2 t ht; omega⟩
theorem sq_of {m : Pl.Tab} {N : Int} {S : Nat} (h : ∀ i j, G N S (Pl.ent m i j)) (hN : N ≤ 8) (hS : S ≤ 48) (h3 : m.length = 3) (hr : ∀ i, i < 3 → (m.getD i []).length = 3) : Sq m 3 ∧ Good m :=
  ⟨⟨by omega, h3, hr, fun i j _ _ => ⟨(h i j).may (by omega) (by omega), Nat.le_trans (h i j).2.2 (by omega), (h i j).length hN⟩⟩, within_mono (within_of h) hN hS, h3, hr⟩

/- the sum that an entry of the product is -/
def accL (a b : Pl.Tab) (r c : Nat) : Nat → List Pl.T
  | 0 => []
  | k + 1 => accL a b r c k ++ Pl.mul (Pl.ent a r k) (Pl.ent b k c)
def PEnt (a b : Pl.Tab) (r c k : Nat) (m : List Pl.T) : Prop := G 8 (16 * k) m ∧ ∀ e, Pl.co m e = Pl.co (accL a b r c k) e
theorem PEnt.step {a b : Pl.Tab} {r c k : Nat} {m lt m' : List Pl.T} (h : PEnt a b r c k m) (ht : Pl.Is lt (Pl.mul (Pl.ent a r k) (Pl.ent b k c))) (hm : Pl.Is m' (m ++ lt)) (g : G 8 (16 * k + 16) m') : PEnt a b r c (k + 1) m' := by
  refine ⟨g, fun e => ?_⟩
  rw [hm.2, Pl.co_app, h.2, ht.2]
  show _ = Pl.co (accL a b r c k ++ _) e
  rw [Pl.co_app]
def PRow (a b : Pl.Tab) (r k : Nat) (row : List (List Pl.T)) : Prop := row.length = k ∧ ∀ j, j < k → PEnt a b r j 3 (row.getD j [])
theorem PRow.snoc {a b : Pl.Tab} {r k : Nat} {row : List (List Pl.T)} {m : List Pl.T} (h : PRow a b r k row) (hm : PEnt a b r k 3 m) : PRow a b r (k + 1) (row ++ [m]) := by
  refine ⟨by rw [List.length_append, h.1]; rfl, fun j hj => ?_⟩
  rw [List.getD_eq_getElem?_getD, List.getElem?_append, h.1]
  by_cases c : j < k
  · rw [if_pos c, ← List.getD_eq_getElem?_getD]; exact h.2 j c
  · obtain rfl : j = k := by omega
    rw [if_neg c]; simpa using hm
def PTab (a b : Pl.Tab) (k : Nat) (t : Pl.Tab) : Prop := t.length = k ∧ ∀ i, i < k → PRow a b i 3 (t.getD i [])
theorem PTab.snoc {a b : Pl.Tab} {k : Nat} {t : Pl.Tab} {row : List (List Pl.T)} (h : PTab a b k t) (hm : PRow a b k 3 row) : PTab a b (k + 1) (t ++ [row]) := by
  refine ⟨by rw [List.length_append, h.1]; rfl, fun j hj => ?_⟩
  rw [List.getD_eq_getElem?_getD, List.getElem?_append, h.1]
  by_cases c : j < k
  · rw [if_pos c, ← List.getD_eq_getElem?_getD]; exact h.2 j c
  · obtain rfl : j = k := by omega
    rw [if_neg c]; simpa using hm
theorem PTab.ent {a b t : Pl.Tab} (h : PTab a b 3 t) (i j : Nat) : G 8 48 (Pl.ent t i j) := by
  unfold Pl.ent
  by_cases hi : i < 3
  · by_cases hj : j < 3
    · exact ((h.2 i hi).2 j hj).1
    · have : (t.getD i []).getD j [] = [] := by
        rw [List.getD_eq_getElem?_getD, List.getElem?_eq_none (by rw [(h.2 i hi).1]; omega)]; rfl
      rw [this]; exact nil_G _ _
  · have : t.getD i [] = [] := by
      rw [List.getD_eq_getElem?_getD, List.getElem?_eq_none (by rw [h.1]; omega)]; rfl
    rw [this]; exact nil_G _ _
theorem det_G {m : Pl.Tab} {N : Int} {S : Nat} {d : List Pl.T} (h : ∀ i j, G N S (Pl.ent m i j)) (hN : 0 ≤ N) (hd : Pl.Is d (Pl.tb m 7)) : G (3 * N) (Pl.nb S 7) d :=
  ⟨hd.1, Pl.in_form hd.1 hd.2 ⟨Pl.tb_exps (within_of h) hN 7, Pl.tb_size (within_of h) 8 7 (by omega) (by omega)⟩⟩
end Go.Proofs.YtjgmlicmjpgfcaaDoor
