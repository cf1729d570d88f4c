/- Walks: Det. -/
import Derived.Test.YtdelekkbkpldjaaDoorP14
import Derived.Test.YtdelekkbkpldjaaDoorQ9
namespace Go.Proofs.YtdelekkbkpldjaaDoor
open Go.RowKit Go.Maps

theorem OwnV.base0 {base e : Nat} {w : World} {v : Value} {ys : List Value} (h : OwnV base e w v ys) : OwnV 0 e w v ys := by
  refine ⟨h.1, ?_⟩
  rcases h.2 with hn | ⟨g, cap, cur, rfl, hb, r⟩
  · exact .inl hn
  · exact .inr ⟨g, cap, cur, rfl, Nat.zero_le _, r⟩
theorem OwnV.kept {base e : Nat} {w w' : World} {row : Option Nat} {v : Value} {ys : List Value} (h : OwnV base e w v ys) (hg : w.grownBy w' row) (hne : ∀ k, v.ownBlock = some k → some k ≠ row) : OwnV base e w' v ys := by
  refine ⟨h.1, ?_⟩
  rcases h.2 with hn | ⟨g, cap, cur, rfl, hb, hgg, r⟩
  · exact .inl hn
  · exact .inr ⟨g, cap, cur, rfl, hb, (hg.block g (Array.getElem?_eq_some_iff.1 hgg).1 (hne g rfl)).trans hgg, r⟩
theorem OwnV.alloc {base e : Nat} {w : World} {v : Value} {ys : List Value} (h : OwnV base e w v ys) (o : Obj) : OwnV base e (w.alloc o) v ys := World.ownsRow.alloc h o
theorem New.own {w w' : World} (h : New w w') {base e : Nat} {v : Value} {ys : List Value} (ho : OwnV base e w v ys) : OwnV base e w' v ys := h.owns ho fun _ _ x => x
/- rows of different elements lie apart -/
theorem own_neV {b b' e e' : Nat} {w : World} {v v' : Value} {xs ys : List Value} (h : OwnV b e w v xs) (h' : OwnV b' e' w v' ys) (hne : e ≠ e') : ∀ k, v.ownBlock = some k → some k ≠ v'.ownBlock := by
  intro k hk
  rcases h.2 with ⟨rfl, _⟩ | ⟨g, cap, cur, rfl, _, hgg, _⟩
  · cases hk
  · rcases h'.2 with ⟨rfl, _⟩ | ⟨g', cap', cur', rfl, _, hgg', _⟩
    · intro z; cases z
    · intro z
      cases hk
      cases z
      rw [hgg] at hgg'
      injection hgg' with hgg'
      injection hgg' with _ he
      exact hne he
theorem om_ne {b e n bb : Nat} {w : World} {v : Value} {xs : List Value} {D : DataW Unit} (h : OwnV b e w v xs) (h' : OM w bb n D) : some bb ≠ v.ownBlock := by
  rcases h.2 with ⟨rfl, _⟩ | ⟨g, cap, cur, rfl, _, hgg, _⟩
  · intro z; cases z
  · intro z
    cases z
    obtain ⟨es, clock, hb, _⟩ := h'
    rw [hgg] at hb
    cases hb
def OwnRow (w : World) (v : Value) (r : List (List Pl.T)) : Prop := ∃ ys, OwnV 0 64 w v ys ∧ ElsP (fun v l => Wk w v l 17) ys r
theorem OwnRow.rowW {w : World} {v : Value} {r : List (List Pl.T)} (h : OwnRow w v r) : RowW 17 w v r := by
  obtain ⟨ys, h1, h2⟩ := h
  exact ⟨ys, h1.sl, h2⟩
theorem New.ownRow {w w' : World} (h : New w w') {v : Value} {r : List (List Pl.T)} (ho : OwnRow w v r) : OwnRow w' v r := by
  obtain ⟨ys, h1, h2⟩ := ho
  exact ⟨ys, h.own h1, h2.mono fun _ _ x => h.wk x⟩
/- behind an append to a row of rows -/
theorem OwnRow.kept {w w' : World} {b : Nat} {o : Obj} {v v5 : Value} {r : List (List Pl.T)} {xs : List Value} (h : OwnRow w v r) (h5 : OwnV b 73 w v5 xs) (hg : (w.alloc o).grownBy w' v5.ownBlock) : OwnRow w' v r := by
  obtain ⟨ys, h1, h2⟩ := h
  refine ⟨ys, (h1.alloc o).kept hg (own_neV h1 h5 (by decide)), h2.mono fun v l hw => ?_⟩
  obtain ⟨bb, D, rfl, ho, hr⟩ := hw
  exact ⟨bb, D, rfl, (World.ownsMap.alloc ho o).kept hg (om_ne h5 ho), hr⟩

/- what Det is handed: a square table of small polynomials -/
structure Sq (m : Pl.Tab) (L : Nat) : Prop where
  le : L ≤ 6
  rows : m.length = L
  cols : ∀ i, i < L → (m.getD i []).length = L
  ent : ∀ i j, i < L → j < L → Pl.May (Pl.ent m i j) ∧ Pl.size (Pl.ent m i j) ≤ 100 ∧ (Pl.ent m i j).length ≤ 17
theorem one_new (w : World) (v : Value) (e : Nat) : (w.alloc (.cells #[v] e)).cell? ⟨w.heap.size, 0, none⟩ = some v := by
  have hg : (w.alloc (.cells #[v] e)).heap[w.heap.size]? = some (.cells #[v] e (0, 0)) := heap_alloc_new w _
  exact (cell_of_row _ _ 0 _ e (0, 0) hg).trans rfl
/- the flattened table -/
theorem sq_flat_len {m : Pl.Tab} {L : Nat} (h : Sq m L) : ∀ k, k ≤ L → (m.take k).flatten.length = k * L
  | 0, _ => by simp
  | k + 1, hk => by
    rw [flat_take (by rw [h.rows]; omega), List.length_append, sq_flat_len h k (by omega), h.cols k (by omega), Nat.add_mul, Nat.one_mul]
theorem sq_total {m : Pl.Tab} {L : Nat} (h : Sq m L) : m.flatten.length ≤ 1000 := by
  have h1 := sq_flat_len h L (Nat.le_refl _)
  rw [List.take_of_length_le (by rw [h.rows]; exact Nat.le_refl _)] at h1
  have h2 : L * L ≤ 6 * 6 := Nat.mul_le_mul h.le h.le
  omega
theorem sq_mem {m : Pl.Tab} {L : Nat} (h : Sq m L) {l : List Pl.T} (hl : l ∈ m.flatten) : Pl.May l ∧ Pl.size l ≤ 100 ∧ l.length ≤ 17 := by
  obtain ⟨r, hr, hlr⟩ := List.mem_flatten.1 hl
  obtain ⟨i, hi, rfl⟩ := List.mem_iff_getElem.1 hr
  obtain ⟨j, hj, rfl⟩ := List.mem_iff_getElem.1 hlr
  have hi' : i < L := by rw [← h.rows]; exact hi
  have e1 : m.getD i [] = m[i] := by rw [List.getD_eq_getElem?_getD, List.getElem?_eq_getElem hi]; rfl
  have hj' : j < L := by rw [← h.cols i hi', e1]; exact hj
  have e2 : Pl.ent m i j = m[i][j] := by unfold Pl.ent; rw [e1, List.getD_eq_getElem?_getD, List.getElem?_eq_getElem hj]; rfl
  rw [← e2]
  exact h.ent i j hi' hj'
theorem allMay_of {w : World} {vs : List Value} {m : Pl.Tab} {L : Nat} (h : Sq m L) (he : ElsP (Ts w) vs m.flatten) : AllMay w vs := by
  intro i hi
  rw [he.len] at hi
  have h1 := he.at_ i hi
  rw [List.getD_eq_getElem?_getD (l := m.flatten), List.getElem?_eq_getElem hi] at h1
  have h2 := sq_mem h (List.getElem_mem hi)
  exact ⟨_, h1, h2.1, h2.2.1⟩
theorem rows_long {w : World} {vs : List Value} {m : Pl.Tab} {L p : Nat} (h : Sq m L) (he : ElsP (RowT w) vs m) {a : Option Addr} {c : Nat} (hp : w.cell? ⟨p, 0, none⟩ = some (.slice a L c)) : RowsLong w vs p L := by
  refine ⟨by have := h.le; omega, ⟨a, c, hp⟩, fun i hi => ?_⟩
  rw [he.len] at hi
  obtain ⟨xs, ⟨a1, c1, er, _⟩, h2⟩ := he.at_ i hi
  refine ⟨a1, c1, ?_⟩
  have e : xs.length = L := by
    rw [h2.len]
    exact h.cols i (by rw [← h.rows]; exact hi)
  rw [er, e]

theorem row_take {r : List (List Pl.T)} {j : Nat} (hj : j < r.length) : r.take (j + 1) = r.take j ++ [r.getD j []] := by
  rw [List.take_succ_eq_append_getElem hj, List.getD_eq_getElem?_getD, List.getElem?_eq_getElem hj]; rfl
theorem tab_take {m : Pl.Tab} {k : Nat} (hk : k < m.length) : m.take (k + 1) = m.take k ++ [m.getD k []] := by
  rw [List.take_succ_eq_append_getElem hk, List.getD_eq_getElem?_getD, List.getElem?_eq_getElem hk]; rfl
theorem wk_kept {w w' : World} {b e : Nat} {o : Obj} {v v8 : Value} {l : List Pl.T} {n : Nat} {ys : List Value} (h : Wk w v l n) (h8 : OwnV b e w v8 ys) (hg : (w.alloc o).grownBy w' v8.ownBlock) : Wk w' v l n := by
  obtain ⟨bb, D, rfl, ho, hr⟩ := h
  exact ⟨bb, D, rfl, (World.ownsMap.alloc ho o).kept hg (om_ne h8 ho), hr⟩

set_option maxRecDepth 100000 in
set_option maxHeartbeats 2000000 in
theorem detP_any (v : Value) (m : Pl.Tab) (L nD : Nat) (D : List Pl.T) (w : World) (hm : TabT w v m) (hq : Sq m L) (hnD : nD ≤ 1000000) (hD : ∀ W v, TabW 17 W v m → Calls Tryd.prog 28 #[v] W (GaveW D nD W)) :
    Calls Tryd.prog 16 #[v] w (GavePair D w) := by
  have HTT := Lib.hid hm
  obtain ⟨vs, ⟨a, c, rfl, hcl⟩, hel⟩ := hm
  have hvl : vs.length = L := by rw [hel.len, hq.rows]
  rw [hvl] at HTT ⊢
  have hL := hq.le
  have HVL := Lib.hid hvl
  have HCL : Hid (CellsAt w a vs) := Lib.hid hcl
  have HEL := Lib.hid hel
  have HQ := Lib.hid hq
  have HD := Lib.hid hD
  clear hvl hcl hel hq hD
  obtain ⟨p, HPe⟩ : ∃ p, Hid (p = w.heap.size) := ⟨_, Lib.hid rfl⟩
  obtain ⟨w1, HW1⟩ : ∃ w1, Hid (w1 = w.alloc (.cells #[.slice a L c] 38)) := ⟨_, Lib.hid rfl⟩
  have HN1 : Hid (New w w1) := Lib.hid (by rw [HW1.out]; exact (Fr.refl _ _).alloc _)
  have cp : w1.cell? ⟨p, 0, none⟩ = some (.slice a L c) := by rw [HW1.out, HPe.out]; exact one_new _ _ _
  have HCP := Lib.hid cp
  obtain ⟨i1, hi1, hz10, hz11, hz12⟩ := info_parts info64
  obtain ⟨i0, hi, hz0, hz1, hz2⟩ := info_parts info73
  go_enter Tryd.func16, Tryd.ntmps16
  go_wp2_with fail
  rw [← HW1.out, ← HPe.out]
  have HS1 : Hid (SlAt w1 (.slice a L c) vs) := Lib.hid ⟨a, c, by rw [HVL.out], HN1.out.cells HCL.out⟩
  refine (lensC_any _ vs _ p L HS1.out (rows_long HQ.out (HEL.out.mono fun _ _ x => HN1.out.rowT x) HCP.out) (by have := HVL.out; omega)).mono ?_
  rintro e w2 ⟨rfl, hn2⟩
  have HN2 : Hid (New w w2) := Lib.hid (HN1.out.trans hn2)
  have cp2 := hn2.cell HCP.out fun x => x
  have HCP2 := Lib.hid cp2
  clear hn2 cp
  go_wp2_with fail
  refine (concat_any _ m _ (HN2.out.tabT HTT.out) (sq_total HQ.out) (by rw [HQ.out.rows]; omega) (fun i hi => by rw [HQ.out.rows] at hi; rw [HQ.out.cols i hi]; omega)).mono ?_
  rintro e w3 ⟨v3, rfl, ⟨ws, hs3, he3⟩, hn3⟩
  have HN3 : Hid (New w w3) := Lib.hid (HN2.out.trans hn3)
  have cp3 := hn3.cell HCP2.out fun x => x
  have HCP3 := Lib.hid cp3
  have HS3 := Lib.hid hs3
  have HE3 := Lib.hid he3
  have HWL : Hid (ws.length ≤ 1000) := Lib.hid (by rw [he3.len]; exact sq_total HQ.out)
  clear hs3 he3 hn3 cp2
  go_wp2_with fail
  refine (maysC_any _ ws _ HS3.out (allMay_of HQ.out HE3.out) HWL.out).mono ?_
  rintro e w4 ⟨rfl, hn4⟩
  have HN4 : Hid (New w w4) := Lib.hid (HN3.out.trans hn4)
  have HN34 := Lib.hid hn4
  have cp4 := hn4.cell HCP3.out fun x => x
  have HCP4 := Lib.hid cp4
  clear hn4 cp3
  go_wp2_with fail
  refine (bigsC_any _ ws _ (HN34.out.sl HS3.out) (allMay_of HQ.out (HE3.out.mono fun _ _ x => HN34.out.ts x)) HWL.out).mono ?_
  rintro e w5 ⟨rfl, hn5⟩
  have HN5 : Hid (New w w5) := Lib.hid (HN4.out.trans hn5)
  have cp5 := hn5.cell HCP4.out fun x => x
  clear hn5 cp4
  go_wp2
  clear cp5
  go_loopw [5, 29] (fun out i wr => ∃ (k : Nat) (xs : List Value), k ≤ L ∧ i = .int .i64 k ∧ Hid (xs.length = k) ∧ Hid (OwnV w5.heap.size 73 wr out xs) ∧ Hid (ElsP (OwnRow wr) xs (m.take k)) ∧ Hid (New w5 wr)) (fun _ i _ => L - (intOf i).toNat)
  case atStart => exact ⟨0, [], by omega, rfl, Lib.hid rfl, Lib.hid (World.ownsRow_nil _ _ _ _), Lib.hid (by simpa using ElsP.nil), Lib.hid (Fr.refl _ _)⟩
  case round =>
    obtain ⟨k, xs, hk, rfl, HXl, HO, HX, HF⟩ := hrel
    obtain ⟨wo, rfl⟩ : ∃ wo : World, wo = wr := ⟨_, rfl⟩
    by_cases hkt : k < L
    · obtain ⟨b, o, rfl, d1⟩ := (New.cells (HN5.out.trans HF.out) HCL.out).at (k := k) (by rw [HVL.out]; exact hkt)
      obtain ⟨zs, ⟨a1, c1, er, hc1⟩, hel1⟩ := HEL.out.at_ k (by rw [HQ.out.rows]; exact hkt)
      have hzl : zs.length = L := by rw [hel1.len]; exact HQ.out.cols k hkt
      rw [er, hzl] at d1
      have HZL := Lib.hid hzl
      have HC1 : Hid (CellsAt w a1 zs) := Lib.hid hc1
      have HE1 : Hid (ElsP (Ts w) zs (m.getD k [])) := Lib.hid hel1
      clear er hc1 hel1 hzl
      go_wp2
      go_loopw [8, 10, 35] (fun out _ i wi => ∃ (j : Nat) (ys : List Value), j ≤ L ∧ i = .int .i64 j ∧ Hid (ys.length = j) ∧ Hid (OwnV wo.heap.size 64 wi out ys) ∧ Hid (ElsP (fun v l => Wk wi v l 17) ys ((m.getD k []).take j)) ∧ Hid (New wo wi)) (fun _ _ i _ => L - (intOf i).toNat)
      case atStart => exact ⟨0, [], by omega, rfl, Lib.hid rfl, Lib.hid (World.ownsRow_nil _ _ _ _), Lib.hid (by simpa using ElsP.nil), Lib.hid (Fr.refl _ _)⟩
      case round =>
        obtain ⟨j, ys, hj, rfl, HYl, HOy, HY, HFi⟩ := hrel
        by_cases hjt : j < L
        · have HWi : Hid (New w wr) := Lib.hid (HN5.out.trans (HF.out.trans HFi.out))
          obtain ⟨b2, o2, rfl, d2⟩ := (New.cells HWi.out HC1.out).at (k := j) (by rw [HZL.out]; exact hjt)
          have hx := HE1.out.at_ j (by rw [HQ.out.cols k hkt]; exact hjt)
          have hen := HQ.out.ent k j hkt hjt
          have htk := row_take (r := m.getD k []) (j := j) (by rw [HQ.out.cols k hkt]; exact hjt)
          obtain ⟨x, HXx⟩ : ∃ x, Hid (x = zs.getD j undef) := ⟨_, Lib.hid rfl⟩
          obtain ⟨l, HLl⟩ : ∃ l, Hid (l = Pl.ent m k j) := ⟨_, Lib.hid rfl⟩
          have e1 : (m.getD k []).getD j [] = l := HLl.out.symm
          have hx' : Ts w (zs.getD j undef) ((m.getD k []).getD j []) := hx
          rw [← HXx.out, e1] at hx'
          rw [← HXx.out] at d2
          rw [e1] at htk
          rw [← HLl.out] at hen
          have HTK := Lib.hid htk
          have HEN := Lib.hid hen
          have HXT := Lib.hid (New.ts HWi.out hx')
          clear hx hen htk e1 hx'
          go_wp2_with fail
          refine (of_any x l _ HXT.out (by have := HEN.out.2.2; omega) (may_exps HEN.out.1) (by have := HEN.out.2.1; omega)).mono ?_
          rintro e w6 ⟨u, rfl, hu, hn6⟩
          have HU : Hid (Wk w6 u l 17) := Lib.hid (hu.mono HEN.out.2.2)
          have HN6 : Hid (New wo w6) := Lib.hid (HFi.out.trans hn6)
          have HOy6 : Hid (OwnV wo.heap.size 64 w6 _ ys) := Lib.hid (New.own hn6 HOy.out)
          have HY6 : Hid (ElsP (fun v l => Wk w6 v l 17) ys ((m.getD k []).take j)) := Lib.hid (HY.out.mono fun _ _ h => New.wk hn6 h)
          clear hu hn6
          obtain ⟨b9, D9, rfl, ho9, hr9⟩ := HU.out
          clear ho9 hr9
          go_wp2_with (at_builtin; refine wpList_append_own _ rfl _ _ 73 rfl wo.heap.size 64 i1 (.map none) 1 8 Tryd.underlying73 hi1 hz10 hz11 hz12 rfl (by decide) _ ys.length ys rfl (OwnV.alloc HOy6.out _) ⟨_, 0, none⟩ 1 1 [.map (some b9)] rfl rfl ?c2 ?c3 ?c4 ?c5 ?c6 ?_)
          case c2 => exact cell_one_new _ _ _
          case c3 => intro u hu; rw [List.mem_singleton] at hu; subst hu; rfl
          case c4 => have := HYl.out; unfold maxLen; omega
          case c5 => have := HYl.out; omega
          case c6 => have := HN6.out.size; simp; omega
          intro v' w7 hown hgrow _
          have HO7 : Hid (OwnV wo.heap.size 64 w7 v' (ys ++ [.map (some b9)])) := Lib.hid (OwnV.snoc hown)
          have HF7 : Hid (New wo w7) := Lib.hid ((Fr.alloc HN6.out _).grown hgrow fun k ek => .inr (HOy6.out.lt k ek).1)
          have HY7 : Hid (ElsP (fun v l => Wk w7 v l 17) (ys ++ [.map (some b9)]) ((m.getD k []).take (j + 1))) := Lib.hid (by
            rw [HTK.out]
            exact ElsP.snoc (HY6.out.mono fun _ _ h => wk_kept h HOy6.out hgrow) (wk_kept HU.out HOy6.out hgrow))
          clear hown hgrow
          go_wp2
          go_roundw
          case rel => exact ⟨j + 1, _, by omega, by go_num, Lib.hid (by rw [List.length_append, HYl.out]; rfl), HO7, HY7, HF7⟩
          case measure => show L - ((j : Int) + 1).toNat < L - (j : Int).toNat; omega
        · obtain rfl : j = L := by omega
          obtain ⟨a9, c9, hs9, _⟩ := HOy.out.sl
          rw [HYl.out] at hs9
          subst hs9
          have HR9 : Hid (OwnRow wr (.slice a9 j c9) (m.getD k [])) := Lib.hid ⟨ys, HOy.out.base0, by
            have := HY.out
            rwa [List.take_of_length_le (by rw [HQ.out.cols k hkt]; exact Nat.le_refl _)] at this⟩
          have HO9 : Hid (OwnV w5.heap.size 73 wr _ xs) := Lib.hid (New.own HFi.out HO.out)
          have HX9 : Hid (ElsP (OwnRow wr) xs (m.take k)) := Lib.hid (HX.out.mono fun _ _ h => New.ownRow HFi.out h)
          have HF9 : Hid (New w5 wr) := Lib.hid (HF.out.trans HFi.out)
          clear HOy HY
          go_wp2_with (at_builtin; refine wpList_append_own _ rfl _ _ 71 rfl w5.heap.size 73 i0 (.slice none 0 0) 1 24 Tryd.underlying71 hi hz0 hz1 hz2 rfl (by decide) _ xs.length xs rfl (OwnV.alloc HO9.out _) ⟨_, 0, none⟩ 1 1 [.slice a9 j c9] rfl rfl ?e2 ?e3 ?e4 ?e5 ?e6 ?_)
          case e2 => exact cell_one_new _ _ _
          case e3 => intro u hu; rw [List.mem_singleton] at hu; subst hu; rfl
          case e4 => have := HXl.out; unfold maxLen; omega
          case e5 => have := HXl.out; omega
          case e6 => have := HF9.out.size; simp; omega
          intro v' w7 hown hgrow _
          have HO7 : Hid (OwnV w5.heap.size 73 w7 v' (xs ++ [.slice a9 j c9])) := Lib.hid (OwnV.snoc hown)
          have HF7 : Hid (New w5 w7) := Lib.hid ((Fr.alloc HF9.out _).grown hgrow fun k ek => .inr (HO9.out.lt k ek).1)
          have HX7 : Hid (ElsP (OwnRow w7) (xs ++ [.slice a9 j c9]) (m.take (k + 1))) := Lib.hid (by
            rw [tab_take (by rw [HQ.out.rows]; exact hkt)]
            exact ElsP.snoc (HX9.out.mono fun _ _ h => h.kept HO9.out hgrow) (HR9.out.kept HO9.out hgrow))
          clear hown hgrow
          go_wp2
          go_roundw
          case rel => exact ⟨k + 1, _, by omega, by go_num, Lib.hid (by rw [List.length_append, HXl.out]; rfl), HO7, HX7, HF7⟩
          case measure => show j - ((k : Int) + 1).toNat < j - (k : Int).toNat; omega
    · obtain rfl : k = L := by omega
      have HW : Hid (TabW 17 wo _ m) := Lib.hid ⟨xs, HO.out.sl, by
        have := HX.out
        rw [List.take_of_length_le (by rw [HQ.out.rows]; exact Nat.le_refl _)] at this
        exact this.mono fun _ _ h => h.rowW⟩
      have HNo : Hid (New w wo) := Lib.hid (HN5.out.trans HF.out)
      go_wp2_with fail
      refine (HD.out _ _ HW.out).mono ?_
      rintro e w6 ⟨z, rfl, hz, hn6⟩
      have HZ := Lib.hid hz
      have HN6 : Hid (New w w6) := Lib.hid (HNo.out.trans hn6)
      clear hz hn6
      go_wp2_with fail
      refine (form_any _ _ _ _ HZ.out hnD).mono ?_
      rintro e w7 ⟨f, hf, vf, rfl, hvf, hn7⟩
      have HFo := Lib.hid hf
      have HVf := Lib.hid hvf
      have HN7 : Hid (New w w7) := Lib.hid (HN6.out.trans hn7)
      clear hf hvf hn7
      go_wp2
      go_ret2
      exact ⟨f, vf, HFo.out, rfl, HVf.out, HN7.out⟩
end Go.Proofs.YtdelekkbkpldjaaDoor
