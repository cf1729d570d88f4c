/- Walks: PolyDets. -/
import Derived.Test.YtjgmlicmjpgfcaaDoorW18
import Derived.Deep.RegionHeld3
namespace Go.Proofs.YtjgmlicmjpgfcaaDoor
open Go.RowKit Go.Maps

def AllG (m : Pl.Tab) : Prop := ∀ i j, G 4 4 (Pl.ent m i j)
theorem det3G (v : Value) (m : Pl.Tab) (w : World) (h : TabT w v m) (hs : Sq m 3 ∧ Good m) : Calls Tryd.prog 12 #[v] w (GavePair (Pl.tb m 7) w) :=
  det_any v m 3 (Pl.nb 17 7) (Pl.tb m 7) w h hs.1 (by have := (Pl.nb_le (s := 7) (by omega)).2.1; omega) fun W v h => det3_any v m W h hs.2
theorem det0G (w : World) : Calls Tryd.prog 12 #[.slice none 0 0] w (GavePair [(0, 1)] w) := by
  refine det_any _ [] 0 1 [(0, 1)] w ⟨[], ⟨none, 0, rfl, .inl rfl⟩, Els.nil⟩ ⟨by omega, rfl, fun i hi => by omega, fun i j hi _ => by omega⟩ (by omega) fun W v h => ?_
  obtain ⟨vs, ⟨a, c, rfl, _⟩, he⟩ := h
  have : vs.length = 0 := he.len
  rw [this]
  exact det0_any a c W
theorem dets_eq {a b p : Pl.Tab} {d f h q : List Pl.T} (ha : AllG a) (hb : AllG b) (hp : PTab a b 3 p) (hd : Pl.Is d (Pl.tb a 7)) (hf : Pl.Is f (Pl.tb b 7)) (hh : Pl.Is h (Pl.tb p 7)) (hq : Pl.Is q (Pl.mul d f)) : h = q := by
  refine hh.unique hq fun e => ?_
  have h1 := Pl.det_mul (within_of ha) (within_of hb) (within_of hp.ent) (fun i j hi hj e => by
    have h2 := ((hp.2 i hi).2 j hj).2 e
    have h3 : Pl.ent p i j = (p.getD i []).getD j [] := rfl
    rw [h3, h2]
    simp only [accL, Pl.co_app, Pl.co_nil]
    omega) e
  rw [h1]
  exact Pl.mul_congr (fun e => (hd.2 e).symm) (fun e => (hf.2 e).symm) _
set_option maxRecDepth 100000 in
set_option maxHeartbeats 4000000 in
theorem dets_any (va vb : Value) (ra rb : List (List Int)) (w : World) (hra : Raws w va ra) (hrb : Raws w vb rb) :
    Calls Tryd.prog 4 #[va, vb] w fun e w' => e = .returned (.bool true) ∧ New w w' := by
  have HRA := Lib.hid hra
  have HRB := Lib.hid hrb
  clear hra hrb
  obtain ⟨i1, hi1, hz10, hz11, hz12⟩ := info_parts info23
  obtain ⟨i0, hi, hz0, hz1, hz2⟩ := info_parts info37
  go_enter Tryd.func4, Tryd.ntmps4
  go_wp2_with fail
  refine (table_any va ra _ HRA.out).mono ?_
  rintro e w1 ⟨ta, rfl, hta, hn1⟩
  have HTA1 := Lib.hid hta
  have HN1 := Lib.hid hn1
  clear hta hn1
  go_wp2_with fail
  refine (table_any vb rb _ (HN1.out.raws HRB.out)).mono ?_
  rintro e w2 ⟨tb, rfl, htb, hn2⟩
  obtain ⟨a, HAe⟩ : ∃ a, Hid (a = tabOf ra 3) := ⟨_, Lib.hid rfl⟩
  obtain ⟨b, HBe⟩ : ∃ b, Hid (b = tabOf rb 3) := ⟨_, Lib.hid rfl⟩
  have HTA : Hid (TabT w2 ta a) := Lib.hid (by rw [HAe.out]; exact hn2.tabT HTA1.out)
  have HTB : Hid (TabT w2 tb b) := Lib.hid (by rw [HBe.out]; exact htb)
  have HN2 : Hid (New w w2) := Lib.hid (HN1.out.trans hn2)
  have HGA : Hid (AllG a) := Lib.hid (by rw [HAe.out]; exact tab_ent ra)
  have HGB : Hid (AllG b) := Lib.hid (by rw [HBe.out]; exact tab_ent rb)
  have HLA : Hid (a.length = 3 ∧ ∀ i, i < 3 → (a.getD i []).length = 3) := Lib.hid (by rw [HAe.out]; exact ⟨tabOf_len ra 3, fun i hi => tab_row ra hi⟩)
  have HLB : Hid (b.length = 3 ∧ ∀ i, i < 3 → (b.getD i []).length = 3) := Lib.hid (by rw [HBe.out]; exact ⟨tabOf_len rb 3, fun i hi => tab_row rb hi⟩)
  clear htb hn2 HTA1
  obtain ⟨avs, ⟨aa, ac, ea, hca⟩, hea⟩ := HTA.out
  have hal : avs.length = 3 := by rw [hea.len]; exact HLA.out.1
  rw [hal] at ea
  subst ea
  obtain ⟨bvs, ⟨ba, bc, eb, hcb⟩, heb⟩ := HTB.out
  have hbl : bvs.length = 3 := by rw [heb.len]; exact HLB.out.1
  rw [hbl] at eb
  subst eb
  have HCA : Hid (CellsAt w2 aa avs) := Lib.hid hca
  have HCB : Hid (CellsAt w2 ba bvs) := Lib.hid hcb
  have HEA := Lib.hid hea
  have HEB := Lib.hid heb
  have HAL := Lib.hid hal
  have HBL := Lib.hid hbl
  clear hca hcb hea heb hal hbl
  go_wp2
  go_loopw [8, 9] (fun out i wr => ∃ (r : Nat) (xs : List Value) (p : Pl.Tab), r ≤ 3 ∧ i = .int .i64 r ∧ Hid (xs.length = r) ∧ Hid (OwnV w2.heap.size 37 wr out xs) ∧ Hid (Els (OwnTRow wr) xs p) ∧ Hid (PTab a b r p) ∧ Hid (New w2 wr)) (fun _ i _ => 3 - (intOf i).toNat)
  case atStart => exact ⟨0, [], [], by omega, rfl, Lib.hid rfl, Lib.hid (World.ownsRow_nil _ _ _ _), Lib.hid Els.nil, Lib.hid ⟨rfl, fun i hi => by omega⟩, Lib.hid (Fr.refl _ _)⟩
  case round =>
    obtain ⟨r, xs, p, hr3, rfl, HXl, HO, HX, HPT, HF⟩ := hrel
    obtain ⟨wo, rfl⟩ : ∃ wo : World, wo = wr := ⟨_, rfl⟩
    by_cases hrt : r < 3
    · have hrb : decide ((r : Int) < 3) = true := by simp; omega
      go_wp2
      go_loopw [10, 11] (fun out i wi => ∃ (c : Nat) (ys : List Value) (row : List (List Pl.T)), c ≤ 3 ∧ i = .int .i64 c ∧ Hid (ys.length = c) ∧ Hid (OwnV wo.heap.size 23 wi out ys) ∧ Hid (Els (OwnT 0 wi) ys row) ∧ Hid (PRow a b r c row) ∧ Hid (New wo wi)) (fun _ i _ => 3 - (intOf i).toNat)
      case atStart => exact ⟨0, [], [], by omega, rfl, Lib.hid rfl, Lib.hid (World.ownsRow_nil _ _ _ _), Lib.hid Els.nil, Lib.hid ⟨rfl, fun i hi => by omega⟩, Lib.hid (Fr.refl _ _)⟩
      case round =>
        obtain ⟨c, ys, row, hc3, rfl, HYl, HOy, HY, HPR, HFi⟩ := hrel
        obtain ⟨wi, rfl⟩ : ∃ wi : World, wi = wr := ⟨_, rfl⟩
        by_cases hct : c < 3
        · have hcb : decide ((c : Int) < 3) = true := by simp; omega
          go_wp2
          go_loopw [12, 13] (fun s i wj => ∃ (k : Nat) (m : List Pl.T), k ≤ 3 ∧ i = .int .i64 k ∧ Hid (OwnT 0 wj s m) ∧ Hid (PEnt a b r c k m) ∧ Hid (New wi wj)) (fun _ i _ => 3 - (intOf i).toNat)
          case atStart => exact ⟨0, [], by omega, rfl, Lib.hid (OwnT.nil_ _ _), Lib.hid ⟨nil_G _ _, fun e => rfl⟩, Lib.hid (Fr.refl _ _)⟩
          case round =>
            obtain ⟨k, m, hk3, rfl, HOm, HPE, HFj⟩ := hrel
            by_cases hkt : k < 3
            · have HWj : Hid (New w2 wr) := Lib.hid (HF.out.trans (HFi.out.trans HFj.out))
              obtain ⟨b1, o1, rfl, d1⟩ := (New.cells HWj.out HCA.out).at (k := r) (by rw [HAL.out]; exact hrt)
              obtain ⟨azs, ⟨a1, c1, er1, hc1⟩, hel1⟩ := HEA.out.at_ r (by rw [HLA.out.1]; exact hrt)
              have hz1' : azs.length = 3 := by rw [hel1.len]; exact HLA.out.2 r hrt
              rw [er1, hz1'] at d1
              obtain ⟨b2, o2, rfl, d2⟩ := (New.cells HWj.out (show CellsAt w2 a1 azs from hc1)).at (k := k) (by rw [hz1']; exact hkt)
              have hx := hel1.at_ k (by show k < (a.getD r []).length; rw [HLA.out.2 r hrt]; exact hkt)
              obtain ⟨b3, o3, rfl, d3⟩ := (New.cells HWj.out HCB.out).at (k := k) (by rw [HBL.out]; exact hkt)
              obtain ⟨bzs, ⟨a3, c3, er3, hcc3⟩, hel3⟩ := HEB.out.at_ k (by rw [HLB.out.1]; exact hkt)
              have hz3' : bzs.length = 3 := by rw [hel3.len]; exact HLB.out.2 k hkt
              rw [er3, hz3'] at d3
              obtain ⟨b4, o4, rfl, d4⟩ := (New.cells HWj.out (show CellsAt w2 a3 bzs from hcc3)).at (k := c) (by rw [hz3']; exact hct)
              have hy := hel3.at_ c (by show c < (b.getD k []).length; rw [HLB.out.2 k hkt]; exact hct)
              obtain ⟨x, HXx⟩ : ∃ x, Hid (x = azs.getD k undef) := ⟨_, Lib.hid rfl⟩
              obtain ⟨y, HYy⟩ : ∃ y, Hid (y = bzs.getD c undef) := ⟨_, Lib.hid rfl⟩
              rw [← HXx.out] at d2 hx
              rw [← HYy.out] at d4 hy
              obtain ⟨lx, HLX⟩ : ∃ l, Hid (l = Pl.ent a r k) := ⟨_, Lib.hid rfl⟩
              obtain ⟨ly, HLY⟩ : ∃ l, Hid (l = Pl.ent b k c) := ⟨_, Lib.hid rfl⟩
              have hx' : Ts w2 x lx := by rw [HLX.out]; exact hx
              have hy' : Ts w2 y ly := by rw [HLY.out]; exact hy
              have HTX := Lib.hid (New.ts HWj.out hx')
              have HTY := Lib.hid (New.ts HWj.out hy')
              have HGX : Hid (G 4 4 lx) := Lib.hid (by rw [HLX.out]; exact HGA.out r k)
              have HGY : Hid (G 4 4 ly) := Lib.hid (by rw [HLY.out]; exact HGB.out k c)
              clear er1 hz1' hc1 hel1 hx er3 hz3' hcc3 hel3 hy hx' hy'
              have j1 : (0 : Int) ≤ (r : Int) := by omega
              have j2 : (r : Int) < 3 := by omega
              have j3 : (0 : Int) ≤ (c : Int) := by omega
              have j4 : (c : Int) < 3 := by omega
              have j5 : (0 : Int) ≤ (k : Int) := by omega
              have j6 : (k : Int) < 3 := by omega
              go_wp2
              go_region_held3 (fun w' => w'.cell? ⟨b1, o1 + r, none⟩ = some (.slice (some ⟨b2, o2, none⟩) 3 c1) ∧ w'.cell? ⟨b2, o2 + k, none⟩ = some x ∧ w'.cell? ⟨b3, o3 + k, none⟩ = some (.slice (some ⟨b4, o4, none⟩) 3 c3) ∧ w'.cell? ⟨b4, o4 + c, none⟩ = some y)
                (first | assumption | go_keep)
                (first
                  | (go_at_call 8; refine (timesG x y lx ly 4 4 4 4 _ (New.ts (Fr.refl _ _).drew HTX.out) (New.ts (Fr.refl _ _).drew HTY.out) HGX.out HGY.out (by omega) (by omega) (by omega) (by omega)).mono ?_; rintro e wt ⟨lt, vt, hit, hgt, rfl, htt, hnt⟩; have hks : wt.cell? ⟨b1, o1 + r, none⟩ = some (.slice (some ⟨b2, o2, none⟩) 3 c1) ∧ wt.cell? ⟨b2, o2 + k, none⟩ = some x ∧ wt.cell? ⟨b3, o3 + k, none⟩ = some (.slice (some ⟨b4, o4, none⟩) 3 c3) ∧ wt.cell? ⟨b4, o4 + c, none⟩ = some y := ⟨hnt.cell d1 fun x => x, hnt.cell d2 fun x => x, hnt.cell d3 fun x => x, hnt.cell d4 fun x => x⟩; have HNT : Hid (New wr wt) := (Lib.hid ((Fr.refl _ _).drew.trans hnt)); have HIT := Lib.hid hit; have HGT := Lib.hid hgt; have HTT := Lib.hid htt; clear hit hgt htt hnt)
                  | (go_at_call 7; refine (plusOG _ vt m lt 8 (16 * k) 16 _ (New.ts HNT.out HOm.out.ts) HTT.out HPE.out.1 HGT.out (by omega) (by omega) (by omega)).mono ?_; rintro e wu ⟨m', vu, him, hgm, rfl, hom, hnm⟩; have HIM := Lib.hid him; have HGM := Lib.hid hgm; have HOM := Lib.hid hom; have HNU : Hid (New wr wu) := (Lib.hid (HNT.out.trans hnm)); have hks2 : wu.cell? ⟨b1, o1 + r, none⟩ = some (.slice (some ⟨b2, o2, none⟩) 3 c1) ∧ wu.cell? ⟨b2, o2 + k, none⟩ = some x ∧ wu.cell? ⟨b3, o3 + k, none⟩ = some (.slice (some ⟨b4, o4, none⟩) 3 c3) ∧ wu.cell? ⟨b4, o4 + c, none⟩ = some y := ⟨hnm.cell hks.1 fun x => x, hnm.cell hks.2.1 fun x => x, hnm.cell hks.2.2.1 fun x => x, hnm.cell hks.2.2.2 fun x => x⟩; clear him hgm hom hnm hks))
              clear hks2
              have HPE' : Hid (PEnt a b r c (k + 1) m') := Lib.hid (HPE.out.step (by rw [← HLX.out, ← HLY.out]; exact HIT.out) HIM.out HGM.out)
              go_wp2
              go_roundw
              case rel => exact ⟨k + 1, m', by omega, by go_num, HOM, HPE', Lib.hid (HFj.out.trans HNU.out)⟩
              case measure => show 3 - ((k : Int) + 1).toNat < 3 - (k : Int).toNat; omega
            · obtain rfl : k = 3 := by omega
              obtain ⟨a9, c9, hs9, _, _⟩ := HOm.out.shape
              obtain ⟨ml, HML⟩ : ∃ ml, Hid (ml = m.length) := ⟨_, Lib.hid rfl⟩
              rw [← HML.out] at hs9
              subst hs9
              have HOy9 : Hid (OwnV wo.heap.size 23 wr _ ys) := Lib.hid (New.own HFj.out HOy.out)
              have HY9 : Hid (Els (OwnT 0 wr) ys row) := Lib.hid (HY.out.mono fun _ _ h => New.ownT HFj.out h)
              have HFo9 : Hid (New wo wr) := Lib.hid (HFi.out.trans HFj.out)
              go_wp2_with (at_builtin; refine wpList_append_own _ rfl _ _ 37 rfl wo.heap.size 23 i1 (.slice none 0 0) 1 24 Tryd.underlying37 hi1 hz10 hz11 hz12 rfl (by decide) _ ys.length ys rfl (OwnV.alloc HOy9.out _) ⟨_, 0, none⟩ 1 1 [.slice a9 ml c9] rfl rfl (cell_one_new _ _ _) (one_sl _ _ _) (by have := HYl.out; unfold maxLen; omega) (by have := HYl.out; omega) (by have := HFo9.out.size; simp; omega) ?_; intro v' w7 hown hgrow _)
              have HO7 : Hid (OwnV wo.heap.size 23 w7 v' (ys ++ [.slice a9 ml c9])) := Lib.hid (OwnV.snoc hown)
              have HF7 : Hid (New wo w7) := Lib.hid ((Fr.alloc HFo9.out _).grown hgrow fun k ek => .inr (HOy9.out.lt k ek).1)
              have HY7 : Hid (Els (OwnT 0 w7) (ys ++ [.slice a9 ml c9]) (row ++ [m])) := Lib.hid
                (Els.snoc (HY9.out.mono fun _ _ h => ownT_kept (by decide) h HOy9.out hgrow) (ownT_kept (by decide) HOm.out HOy9.out hgrow))
              clear hown hgrow
              go_wp2
              go_roundw
              case rel => exact ⟨c + 1, _, row ++ [m], by omega, by go_num, Lib.hid (by rw [List.length_append, HYl.out]; rfl), HO7, HY7, Lib.hid (HPR.out.snoc HPE.out), HF7⟩
              case measure => show 3 - ((c : Int) + 1).toNat < 3 - (c : Int).toNat; omega
        · obtain rfl : c = 3 := by omega
          obtain ⟨a9, c9, hs9, _⟩ := HOy.out.sl
          rw [HYl.out] at hs9
          subst hs9
          have HR9 : Hid (OwnTRow wi (.slice a9 3 c9) row) := Lib.hid ⟨ys, HOy.out.base0, HY.out⟩
          have HO9 : Hid (OwnV w2.heap.size 37 wi _ xs) := Lib.hid (New.own HFi.out HO.out)
          have HX9 : Hid (Els (OwnTRow wi) xs p) := Lib.hid (HX.out.mono fun _ _ h => New.ownTRow HFi.out h)
          have HF9 : Hid (New w2 wi) := Lib.hid (HF.out.trans HFi.out)
          clear HOy HY
          go_wp2_with (at_builtin; refine wpList_append_own _ rfl _ _ 36 rfl w2.heap.size 37 i0 (.slice none 0 0) 1 24 Tryd.underlying36 hi hz0 hz1 hz2 rfl (by decide) _ xs.length xs rfl (OwnV.alloc HO9.out _) ⟨_, 0, none⟩ 1 1 [.slice a9 3 c9] rfl rfl (cell_one_new _ _ _) (one_sl _ _ _) (by have := HXl.out; unfold maxLen; omega) (by have := HXl.out; omega) (by have := HF9.out.size; simp; omega) ?_; intro v' w7 hown hgrow _)
          have HO7 : Hid (OwnV w2.heap.size 37 w7 v' (xs ++ [.slice a9 3 c9])) := Lib.hid (OwnV.snoc hown)
          have HF7 : Hid (New w2 w7) := Lib.hid ((Fr.alloc HF9.out _).grown hgrow fun k ek => .inr (HO9.out.lt k ek).1)
          have HX7 : Hid (Els (OwnTRow w7) (xs ++ [.slice a9 3 c9]) (p ++ [row])) := Lib.hid
            (Els.snoc (HX9.out.mono fun _ _ h => h.kept HO9.out hgrow) (HR9.out.kept HO9.out hgrow))
          clear hown hgrow
          go_wp2
          go_roundw
          case rel => exact ⟨r + 1, _, p ++ [row], by omega, by go_num, Lib.hid (by rw [List.length_append, HXl.out]; rfl), HO7, HX7, Lib.hid (HPT.out.snoc HPR.out), HF7⟩
          case measure => show 3 - ((r : Int) + 1).toNat < 3 - (r : Int).toNat; omega
    · obtain rfl : r = 3 := by omega
      have hsa := sq_of HGA.out (by omega) (by omega) HLA.out.1 HLA.out.2
      have hsb := sq_of HGB.out (by omega) (by omega) HLB.out.1 HLB.out.2
      have hsp := sq_of (m := p) HPT.out.ent (by omega) (by omega) HPT.out.1 (fun i hi => (HPT.out.2 i hi).1)
      have HSA := Lib.hid hsa
      have HSB := Lib.hid hsb
      have HSP := Lib.hid hsp
      clear hsa hsb hsp
      have HTP : Hid (TabT wo _ p) := Lib.hid ⟨xs, HO.out.sl, HX.out.mono fun _ _ h => h.rowT⟩
      go_wp2_with fail
      refine (det3G _ a _ (New.tabT HF.out HTA.out) HSA.out).mono ?_
      rintro e w3 ⟨d, vd, hd, rfl, htd, hn3⟩
      have HD := Lib.hid hd
      have HTD := Lib.hid htd
      have HN3 : Hid (New wo w3) := Lib.hid hn3
      clear hd htd hn3
      go_wp2_with fail
      refine (det3G _ b _ (New.tabT (HF.out.trans HN3.out) HTB.out) HSB.out).mono ?_
      rintro e w4 ⟨f, vf, hd, rfl, htd, hn4⟩
      have HFf := Lib.hid hd
      have HTF := Lib.hid htd
      have HTD4 := Lib.hid (New.ts hn4 HTD.out)
      have HN4 : Hid (New wo w4) := Lib.hid (HN3.out.trans hn4)
      clear hd htd hn4
      go_wp2_with fail
      refine (det3G _ p _ (New.tabT HN4.out HTP.out) HSP.out).mono ?_
      rintro e w5 ⟨h, vh, hd, rfl, htd, hn5⟩
      have HH := Lib.hid hd
      have HTH := Lib.hid htd
      have HTD5 := Lib.hid (New.ts hn5 HTD4.out)
      have HTF5 := Lib.hid (New.ts hn5 HTF.out)
      have HN5 : Hid (New wo w5) := Lib.hid (HN4.out.trans hn5)
      clear hd htd hn5
      go_wp2_with fail
      refine (det0G _).mono ?_
      rintro e w6 ⟨z, vz, hd, rfl, htd, hn6⟩
      have HZ := Lib.hid hd
      have HTZ := Lib.hid htd
      have HTD6 := Lib.hid (New.ts hn6 HTD5.out)
      have HTF6 := Lib.hid (New.ts hn6 HTF5.out)
      have HTH6 := Lib.hid (New.ts hn6 HTH.out)
      have HN6 : Hid (New wo w6) := Lib.hid (HN5.out.trans hn6)
      clear hd htd hn6
      have HGD : Hid (G 12 384 d) := Lib.hid (by
        have h := det_G HGA.out (by omega) HD.out
        have e : Pl.nb 4 7 = 384 := by decide
        rw [e] at h
        exact h)
      have HGF : Hid (G 12 384 f) := Lib.hid (by
        have h := det_G HGB.out (by omega) HFf.out
        have e : Pl.nb 4 7 = 384 := by decide
        rw [e] at h
        exact h)
      have HGH : Hid (G 24 663552 h) := Lib.hid (by
        have h := det_G HPT.out.ent (by omega) HH.out
        have e : Pl.nb 48 7 = 663552 := by decide
        rw [e] at h
        exact h)
      go_wp2_with fail
      refine (timesG _ _ d f 12 12 384 384 _ HTD6.out HTF6.out HGD.out HGF.out (by omega) (by omega) (by omega) (by omega)).mono ?_
      rintro e w7 ⟨q, vq, hd, hg, rfl, htd, hn7⟩
      have HQI := Lib.hid hd
      have HQG : Hid (G 24 147456 q) := Lib.hid hg
      have HTQ := Lib.hid htd
      have HTH7 := Lib.hid (New.ts hn7 HTH6.out)
      have HTZ7 := Lib.hid (New.ts hn7 HTZ.out)
      have HN7 : Hid (New wo w7) := Lib.hid (HN6.out.trans hn7)
      clear hd hg htd hn7
      have HEQ : Hid (h = q) := Lib.hid (dets_eq HGA.out HGB.out HPT.out HD.out HFf.out HH.out HQI.out)
      go_wp2_with fail
      refine (sameT _ _ h q _ HTH7.out HTQ.out (HGH.out.len (by omega) (by omega)) (HQG.out.len (by omega) (by omega)) HEQ.out).mono ?_
      rintro e w8 ⟨rfl, hn8⟩
      have HTZ8 := Lib.hid (New.ts hn8 HTZ7.out)
      have HN8 : Hid (New wo w8) := Lib.hid (HN7.out.trans hn8)
      clear hn8
      obtain ⟨w9, HW9⟩ : ∃ w9, Hid (w9 = w8.alloc (.cells #[.int .i64 0, .int .i64 1] 26)) := ⟨_, Lib.hid rfl⟩
      have HTO : Hid (Ts w9 (.slice (some ⟨w8.heap.size, 0, none⟩) 1 1) [(0, 1)]) := Lib.hid (by rw [HW9.out]; exact one_ts _)
      have HN89 : Hid (New w8 w9) := Lib.hid (by rw [HW9.out]; exact (Fr.refl _ _).alloc _)
      have HZ1 : Hid (z = [(0, 1)]) := Lib.hid (HZ.out.unique (l' := [(0, 1)]) ⟨one_G.1, fun _ => rfl⟩ fun _ => rfl)
      go_wp2_with fail
      rw [← HW9.out]
      refine (sameT _ _ z [(0, 1)] _ (New.ts HN89.out HTZ8.out) HTO.out (by rw [HZ1.out]; decide) (by decide) HZ1.out).mono ?_
      rintro e w10 ⟨rfl, hn10⟩
      have HNe : Hid (New w w10) := Lib.hid (HN2.out.trans (HF.out.trans (HN8.out.trans (HN89.out.trans hn10))))
      clear hn10
      go_wp2
      go_ret
      exact ⟨rfl, HNe.out⟩
end Go.Proofs.YtjgmlicmjpgfcaaDoor
