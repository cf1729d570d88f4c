/- Walks: the table that PolyDets makes of raw numbers. -/
import Derived.Test.YtjgmlicmjpgfcaaDoorW16
namespace Go.Proofs.YtjgmlicmjpgfcaaDoor
open Go.RowKit Go.Maps

def adj (c : Int) : Int := if c.tmod 3 = 0 then 1 else c.tmod 3
def adjT (t : Pl.T) : Pl.T := (t.1, adj t.2)
def cl (l : List Pl.T) : List Pl.T := (l.take 2).map adjT
def entry (rs : List (List Int)) (q : Nat) : List Pl.T := if q < rs.length then cl (sm (rs.getD q [])) else []
def rowOf (rs : List (List Int)) (r : Nat) : Nat → List (List Pl.T)
  | 0 => []
  | k + 1 => rowOf rs r k ++ [entry rs (r * 3 + k)]
def tabOf (rs : List (List Int)) : Nat → Pl.Tab
  | 0 => []
  | k + 1 => tabOf rs k ++ [rowOf rs k 3]
/- slices of raw numbers -/
def RawAt (w : World) (v : Value) (raw : List Int) : Prop := ∃ a c, v = .slice a raw.length c ∧ IntsAt w a raw ∧ Raw raw ∧ raw.length ≤ 9223372036854775807
def Raws (w : World) (v : Value) (rs : List (List Int)) : Prop := rs.length ≤ 9223372036854775807 ∧ ∃ vs, SlAt w v vs ∧ Els (RawAt w) vs rs
theorem New.rawAt {w w' : World} (h : New w w') {v : Value} {raw : List Int} (hr : RawAt w v raw) : RawAt w' v raw := by
  obtain ⟨a, c, e, h1, h2⟩ := hr
  exact ⟨a, c, e, h.ints h1, h2⟩
theorem New.raws {w w' : World} (h : New w w') {v : Value} {rs : List (List Int)} (hr : Raws w v rs) : Raws w' v rs := by
  obtain ⟨h0, vs, h1, h2⟩ := hr
  exact ⟨h0, vs, h.sl h1, h2.mono fun _ _ x => h.rawAt x⟩
/- rows of different elements lie apart -/
theorem owns_ne {b b' e e' z z' n n' : Nat} {w : World} {v v' : Value} {xs ys : List Value} (h : w.ownsRow b e z v n xs) (h' : w.ownsRow b' e' z' v' n' ys) (hne : e ≠ e') : ∀ k, v.ownBlock = some k → some k ≠ v'.ownBlock := by
  intro k hk
  rcases h.2 with ⟨rfl, _⟩ | ⟨g, cap, cur, rfl, _, hgg, _⟩
  · cases hk
  · rcases h'.2 with ⟨rfl, _⟩ | ⟨g', cap', cur', rfl, _, hgg', _⟩
    · intro z; cases z
    · intro z
      cases hk
      cases z
      rw [hgg] at hgg'
      injection hgg' with hgg'
      injection hgg' with _ he
      exact hne he
theorem owns_kept {b e z n : Nat} {w w' : World} {row : Option Nat} {v : Value} {ys : List Value} (h : w.ownsRow b e z v n ys) (hg : w.grownBy w' row) (hne : ∀ k, v.ownBlock = some k → some k ≠ row) : w'.ownsRow b e z v n ys := by
  refine ⟨h.1, ?_⟩
  rcases h.2 with hn | ⟨g, cap, cur, rfl, hb, hgg, r⟩
  · exact .inl hn
  · exact .inr ⟨g, cap, cur, rfl, hb, (hg.block g (Array.getElem?_eq_some_iff.1 hgg).1 (hne g rfl)).trans hgg, r⟩
theorem OwnT.base0 {base : Nat} {w : World} {v : Value} {l : List Pl.T} (h : OwnT base w v l) : OwnT 0 w v l := by
  refine ⟨h.1, ?_⟩
  rcases h.2 with hn | ⟨g, cap, cur, rfl, hb, r⟩
  · exact .inl hn
  · exact .inr ⟨g, cap, cur, rfl, Nat.zero_le _, r⟩
/- a row, a table, of the call's own -/
def OwnTRow (w : World) (v : Value) (r : List (List Pl.T)) : Prop := ∃ ys, OwnV 0 23 w v ys ∧ Els (OwnT 0 w) ys r
theorem OwnTRow.rowT {w : World} {v : Value} {r : List (List Pl.T)} (h : OwnTRow w v r) : RowT w v r := by
  obtain ⟨ys, h1, h2⟩ := h
  exact ⟨ys, h1.sl, h2.mono fun _ _ x => x.ts⟩
theorem New.ownTRow {w w' : World} (h : New w w') {v : Value} {r : List (List Pl.T)} (ho : OwnTRow w v r) : OwnTRow w' v r := by
  obtain ⟨ys, h1, h2⟩ := ho
  exact ⟨ys, h.own h1, h2.mono fun _ _ x => h.ownT x⟩
theorem ownT_kept {w w' : World} {b e : Nat} {o : Obj} {v v5 : Value} {l : List Pl.T} {xs : List Value} (he : 26 ≠ e) (h : OwnT 0 w v l) (h5 : OwnV b e w v5 xs) (hg : (w.alloc o).grownBy w' v5.ownBlock) : OwnT 0 w' v l :=
  owns_kept (World.ownsRow.alloc h o) hg (owns_ne h h5 he)
theorem OwnTRow.kept {w w' : World} {b : Nat} {o : Obj} {v v5 : Value} {r : List (List Pl.T)} {xs : List Value} (h : OwnTRow w v r) (h5 : OwnV b 37 w v5 xs) (hg : (w.alloc o).grownBy w' v5.ownBlock) : OwnTRow w' v r := by
  obtain ⟨ys, h1, h2⟩ := h
  exact ⟨ys, (h1.alloc o).kept hg (own_ne h1 h5 (by decide)), h2.mono fun v l x => ownT_kept (by decide) x h5 hg⟩
theorem info37 : (Tryd.prog.info? 37).map (fun i => (i.zero, i.size, i.bytes)) = some (some (.slice none 0 0), 1, 24) := by kernel_rfl
/- small coefficients -/
def Nine (l : List Pl.T) : Prop := ∀ t ∈ l, -9 ≤ t.2 ∧ t.2 ≤ 9
theorem nine_ofMap {f : Int → Int} (h : ∀ e, (f e).natAbs ≤ 9) : ∀ ks : List Int, Nine (Pl.ofMap f ks)
  | [] => fun t ht => by cases ht
  | k :: l => by
    intro t ht
    unfold Pl.ofMap at ht
    split at ht
    · exact nine_ofMap h l t ht
    · rcases List.mem_cons.1 ht with rfl | ht
      · have := h k; show -9 ≤ f k ∧ f k ≤ 9; omega
      · exact nine_ofMap h l t ht
theorem nine_sm (raw : List Int) : Nine (sm raw) := nine_ofMap (smf_le raw) _
theorem Nine.at {l : List Pl.T} (h : Nine l) {k : Nat} (hk : k < l.length) : -9 ≤ (l.getD k (0, 0)).2 ∧ (l.getD k (0, 0)).2 ≤ 9 := by
  rw [List.getD_eq_getElem?_getD, List.getElem?_eq_getElem hk]
  exact h _ (List.getElem_mem hk)
theorem getD_set {x : List Pl.T} {i j : Nat} {t : Pl.T} (hi : i < x.length) : (x.set i t).getD j (0, 0) = if j = i then t else x.getD j (0, 0) := by
  rw [List.getD_eq_getElem?_getD, List.getD_eq_getElem?_getD, List.getElem?_set]
  by_cases c : i = j
  · subst c; simp [hi]
  · rw [if_neg c, if_neg fun z => c z.symm]
theorem one_sl (a : Option Addr) (n c : Nat) : ∀ u ∈ [Value.slice a n c], u.oneCell' = true := by
  intro u hu; rw [List.mem_singleton] at hu; subst hu; rfl
/- under way: the first i places are turned -/
def Half (l x : List Pl.T) (i : Nat) : Prop := x.length = l.length ∧ ∀ j, j < l.length → x.getD j (0, 0) = if j < i then adjT (l.getD j (0, 0)) else l.getD j (0, 0)
theorem Half.start (l : List Pl.T) : Half l l 0 := ⟨rfl, fun j _ => by rw [if_neg (by omega)]⟩
theorem Half.all {l x : List Pl.T} (h : Half l x l.length) : x = l.map adjT := by
  refine at_ext (by rw [h.1, List.length_map]) fun j hj => ?_
  rw [h.1] at hj
  rw [h.2 j hj, if_pos hj, List.getD_eq_getElem?_getD, List.getD_eq_getElem?_getD, List.getElem?_map, List.getElem?_eq_getElem hj]
  rfl
theorem Half.step {l x : List Pl.T} {i : Nat} (h : Half l x i) (hi : i < l.length) {d : Int} (hd : d = adj (l.getD i (0, 0)).2) : Half l (x.set i ((x.getD i (0, 0)).1, d)) (i + 1) := by
  refine ⟨by rw [List.length_set]; exact h.1, fun j hj => ?_⟩
  rw [getD_set (by rw [h.1]; exact hi)]
  by_cases c : j = i
  · subst c
    rw [if_pos rfl, if_pos (by omega), h.2 j hj, if_neg (by omega), hd]; rfl
  · rw [if_neg c, h.2 j hj]
    by_cases c2 : j < i
    · rw [if_pos c2, if_pos (by omega)]
    · rw [if_neg c2, if_neg (by omega)]
theorem Half.twice {x : List Pl.T} {i : Nat} {d d' : Int} (hi : i < x.length) : (x.set i ((x.getD i (0, 0)).1, d)).set i (((x.set i ((x.getD i (0, 0)).1, d)).getD i (0, 0)).1, d') = x.set i ((x.getD i (0, 0)).1, d') := by
  rw [getD_set hi, if_pos rfl, List.set_set]
theorem Half.at {l x : List Pl.T} {i : Nat} (h : Half l x i) (hi : i < l.length) : x.getD i (0, 0) = l.getD i (0, 0) := by rw [h.2 i hi, if_neg (by omega)]

set_option maxRecDepth 100000 in
set_option maxHeartbeats 2000000 in
/- the loop over a cell's terms, from there to the row's next place -/
theorem table_any (v : Value) (rs : List (List Int)) (w : World) (hr : Raws w v rs) :
    Calls Tryd.prog 11 #[v] w fun e w' => ∃ v', e = .returned v' ∧ TabT w' v' (tabOf rs 3) ∧ New w w' := by
  obtain ⟨hrl, vs, ⟨a, c, rfl, hcl⟩, hel⟩ := hr
  obtain ⟨n, hn⟩ : ∃ n, n = vs.length := ⟨_, rfl⟩
  have hnr : n = rs.length := by rw [hn, hel.len]
  rw [← hn]
  have hn63 : n ≤ 9223372036854775807 := by omega
  have HN := Lib.hid hn
  have HNR := Lib.hid hnr
  have HCL : Hid (CellsAt w a vs) := Lib.hid hcl
  have HEL := Lib.hid hel
  clear hn hnr hcl hel hrl
  obtain ⟨i1, hi1, hz10, hz11, hz12⟩ := info_parts info23
  obtain ⟨i0, hi, hz0, hz1, hz2⟩ := info_parts info37
  go_enter Tryd.func11, Tryd.ntmps11
  go_wp2
  go_loopw [3, 4] (fun out i wr => ∃ (r : Nat) (xs : List Value), r ≤ 3 ∧ i = .int .i64 r ∧ Hid (xs.length = r) ∧ Hid (OwnV w.heap.size 37 wr out xs) ∧ Hid (Els (OwnTRow wr) xs (tabOf rs r)) ∧ Hid (New w wr)) (fun _ i _ => 3 - (intOf i).toNat)
  case atStart => exact ⟨0, [], by omega, rfl, Lib.hid rfl, Lib.hid (World.ownsRow_nil _ _ _ _), Lib.hid Els.nil, Lib.hid (Fr.refl _ _)⟩
  case round =>
    obtain ⟨r, xs, hr3, rfl, HXl, HO, HX, HF⟩ := hrel
    obtain ⟨wo, rfl⟩ : ∃ wo : World, wo = wr := ⟨_, rfl⟩
    by_cases hrt : r < 3
    · have hrb : decide ((r : Int) < 3) = true := by simp; omega
      go_wp2
      go_loopw [5, 6] (fun out i wi => ∃ (k : Nat) (ys : List Value), k ≤ 3 ∧ i = .int .i64 k ∧ Hid (ys.length = k) ∧ Hid (OwnV wo.heap.size 23 wi out ys) ∧ Hid (Els (OwnT 0 wi) ys (rowOf rs r k)) ∧ Hid (New wo wi)) (fun _ i _ => 3 - (intOf i).toNat)
      case atStart => exact ⟨0, [], by omega, rfl, Lib.hid rfl, Lib.hid (World.ownsRow_nil _ _ _ _), Lib.hid Els.nil, Lib.hid (Fr.refl _ _)⟩
      case round =>
        obtain ⟨k, ys, hk3, rfl, HYl, HOy, HY, HFi⟩ := hrel
        obtain ⟨wi, rfl⟩ : ∃ wi : World, wi = wr := ⟨_, rfl⟩
        by_cases hkt : k < 3
        · obtain ⟨q, HQ⟩ : ∃ q : Nat, Hid (q = r * 3 + k) := ⟨_, Lib.hid rfl⟩
          have hq : (r : Int) * 3 + (k : Int) = (q : Int) := by have := HQ.out; omega
          have hq9 : q ≤ 9 := by have := HQ.out; omega
          have HWi : Hid (New w wi) := Lib.hid (HF.out.trans HFi.out)
          by_cases hqn : q < n
          · obtain ⟨b, o, rfl, d1⟩ := (New.cells HWi.out HCL.out).at (k := q) (by rw [← HN.out]; exact hqn)
            have hraw := HEL.out.at_ q (by rw [← HNR.out]; exact hqn)
            obtain ⟨raw, HRW⟩ : ∃ raw, Hid (raw = rs.getD q []) := ⟨_, Lib.hid rfl⟩
            have hraw' : RawAt w (vs.getD q undef) raw := by rw [HRW.out]; exact hraw
            obtain ⟨a1, c1, er, hi1', hrw, hrl⟩ := HWi.out.rawAt hraw'
            rw [er] at d1
            have HEN : Hid (entry rs q = cl (sm raw)) := Lib.hid (by unfold entry; rw [if_pos (by rw [← HNR.out]; exact hqn), HRW.out])
            obtain ⟨rl, HRL⟩ : ∃ rl, Hid (rl = raw.length) := ⟨_, Lib.hid rfl⟩
            rw [← HRL.out] at d1
            have CC := Lib.hid (smallOwn_any a1 rl c1 raw wi HRL.out hi1' hrl hrw)
            clear hraw hraw' er hi1' hrw hrl
            go_wp2_with fail
            refine CC.out.mono ?_
            rintro e w9 ⟨v9, rfl, ho9, hn9⟩
            have hlen := smk_length raw (min raw.length 9)
            obtain ⟨l0, HL0⟩ : ∃ l0, Hid (l0 = sm raw) := ⟨_, Lib.hid rfl⟩
            rw [← HL0.out] at ho9
            have hl9 : l0.length ≤ 9 := by rw [HL0.out]; unfold sm; omega
            have HNI : Hid (Nine l0) := Lib.hid (by rw [HL0.out]; exact nine_sm raw)
            obtain ⟨a9, c9, rfl, hlc, _⟩ := ho9.shape
            obtain ⟨m0, HM0⟩ : ∃ m0, Hid (m0 = l0.length) := ⟨_, Lib.hid rfl⟩
            rw [← HM0.out] at ho9 hlc hl9 ⊢
            have HO9 := Lib.hid ho9
            have HF9 := Lib.hid hn9
            have HLC := Lib.hid hlc
            clear ho9 hn9 hlen
            by_cases h2 : 2 < m0
            · obtain ⟨l9, HL9⟩ : ∃ l9, Hid (l9 = l0.take 2) := ⟨_, Lib.hid rfl⟩
              have HO9' : Hid (OwnT wi.heap.size w9 (.slice a9 2 c9) l9) := Lib.hid (by rw [HL9.out]; exact HO9.out.cut (by rw [← HM0.out]; exact h2))
              have HLn : Hid (l9.length = 2) := Lib.hid (by rw [HL9.out, List.length_take, ← HM0.out]; omega)
              have HEq : Hid (l9.map adjT = entry rs q) := Lib.hid (by rw [HEN.out, ← HL0.out, HL9.out]; rfl)
              have HNI9 : Hid (Nine l9) := Lib.hid fun t ht => HNI.out t (by rw [HL9.out] at ht; exact List.mem_of_mem_take ht)
              have HF9' := HF9
              go_wp2
              go_loopw [8] (fun t wj => ∃ (i : Nat) (x : List Pl.T), i ≤ 2 ∧ t = .int .i64 i ∧ Hid (OwnT wi.heap.size wj (.slice a9 2 c9) x) ∧ Hid (Half l9 x i) ∧ Hid (New wi wj)) (fun t _ => 2 - (intOf t).toNat)
              case atStart => exact ⟨0, l9, by omega, rfl, HO9', Lib.hid (Half.start _), HF9'⟩
              case round =>
                obtain ⟨i, x, hi2, rfl, HOx, HHf, HFj⟩ := hrel
                by_cases hit : i < 2
                · have hil : i < l9.length := by rw [HLn.out]; exact hit
                  have hix : i < x.length := by rw [HHf.out.1]; exact hil
                  obtain ⟨a8, c8, hs8, _, hs9⟩ := HOx.out.shape
                  rcases hs9 with hs9 | ⟨g, hs9, hgB⟩
                  · rw [hs9] at hix; simp at hix
                  · subst hs9
                    injection hs8 with e8 e8b e9
                    subst e8
                    have HGB := Lib.hid hgB
                    have dd := HOx.out.cells hix
                    have ff := HOx.out.free (i * 2 + 1)
                    have hat := HHf.out.at hil
                    rw [hat] at dd
                    have hb9 := HNI9.out.at hil
                    obtain ⟨e1, H1⟩ : ∃ e, Hid (e = (l9.getD i (0, 0)).1) := ⟨_, Lib.hid rfl⟩
                    obtain ⟨e2, H2⟩ : ∃ e, Hid (e = (l9.getD i (0, 0)).2) := ⟨_, Lib.hid rfl⟩
                    rw [← H1.out, ← H2.out] at dd
                    rw [← H2.out] at hb9
                    obtain ⟨dd1, dd2⟩ := dd
                    obtain ⟨b1, b2⟩ := hb9
                    have i1 : (0 : Int) ≤ (i : Int) := by omega
                    have i2 : (i : Int) < (2 : Int) := by omega
                    have HIX := Lib.hid hix
                    have HIL := Lib.hid hil
                    clear hgB hat hix hil e8b e9
                    by_cases h0 : e2.tmod 3 = 0
                    · have hb0 : (e2.tmod 3 == 0) = true := by rw [h0]; rfl
                      have HA : Hid (1 = adj (l9.getD i (0, 0)).2) := Lib.hid (by unfold adj; rw [← H2.out, if_pos h0])
                      have HZ0 := Lib.hid h0
                      clear h0
                      go_wp2
                      go_roundw
                      case rel => exact ⟨i + 1, _, by omega, by go_num, Lib.hid (by
                        have h := OwnT.set (OwnT.set HOx.out HIX.out (e2.tmod 3)) (i := i) (by rw [List.length_set]; exact HIX.out) 1
                        rw [Half.twice HIX.out] at h
                        exact h), Lib.hid (Half.step HHf.out HIL.out HA.out), Lib.hid ((HFj.out.setCell (.inr HGB.out) _).setCell (.inr HGB.out) _)⟩
                      case measure => show 2 - ((i : Int) + 1).toNat < 2 - (i : Int).toNat; omega
                    · have hb0 : (e2.tmod 3 == 0) = false := by rw [beq_eq_false_iff_ne]; exact h0
                      have HA : Hid (e2.tmod 3 = adj (l9.getD i (0, 0)).2) := Lib.hid (by unfold adj; rw [← H2.out, if_neg h0])
                      clear h0
                      go_wp2
                      go_roundw
                      case rel => exact ⟨i + 1, _, by omega, by go_num, Lib.hid (OwnT.set HOx.out HIX.out _), Lib.hid (Half.step HHf.out HIL.out HA.out), Lib.hid (HFj.out.setCell (.inr HGB.out) _)⟩
                      case measure => show 2 - ((i : Int) + 1).toNat < 2 - (i : Int).toNat; omega
                · have hii : 2 = i := by omega
                  subst hii
                  have HX9 : Hid (OwnT 0 wr (.slice a9 2 c9) (entry rs q)) := Lib.hid (by
                    have h := HHf.out
                    rw [← HLn.out] at h
                    rw [← HEq.out, ← h.all]
                    exact HOx.out.base0)
                  have HOy9 : Hid (OwnV wo.heap.size 23 wr _ ys) := Lib.hid (New.own HFj.out HOy.out)
                  have HY9 : Hid (Els (OwnT 0 wr) ys (rowOf rs r k)) := Lib.hid (HY.out.mono fun _ _ h => New.ownT HFj.out h)
                  have HFo9 : Hid (New wo wr) := Lib.hid (HFi.out.trans HFj.out)
                  go_wp2_with (at_builtin; refine wpList_append_own _ rfl _ _ 37 rfl wo.heap.size 23 i1 (.slice none 0 0) 1 24 Tryd.underlying37 hi1 hz10 hz11 hz12 rfl (by decide) _ ys.length ys rfl (OwnV.alloc HOy9.out _) ⟨_, 0, none⟩ 1 1 [(.slice a9 2 c9)] rfl rfl (cell_one_new _ _ _) (one_sl _ _ _) (by have := HYl.out; unfold maxLen; omega) (by have := HYl.out; omega) (by have := HFo9.out.size; simp; omega) ?_; intro v' w7 hown hgrow _)
                  have HO7 : Hid (OwnV wo.heap.size 23 w7 v' (ys ++ [(.slice a9 2 c9)])) := Lib.hid (OwnV.snoc hown)
                  have HF7 : Hid (New wo w7) := Lib.hid ((Fr.alloc HFo9.out _).grown hgrow fun k ek => .inr (HOy9.out.lt k ek).1)
                  have HY7 : Hid (Els (OwnT 0 w7) (ys ++ [(.slice a9 2 c9)]) (rowOf rs r (k + 1))) := Lib.hid (by
                    show Els (OwnT 0 w7) _ (rowOf rs r k ++ [entry rs (r * 3 + k)])
                    rw [← HQ.out]
                    exact Els.snoc (HY9.out.mono fun _ _ h => ownT_kept (by decide) h HOy9.out hgrow) (ownT_kept (by decide) HX9.out HOy9.out hgrow))
                  clear hown hgrow
                  go_wp2
                  go_roundw
                  case rel => exact ⟨k + 1, _, by omega, by go_num, Lib.hid (by rw [List.length_append, HYl.out]; rfl), HO7, HY7, HF7⟩
                  case measure => show 3 - ((k : Int) + 1).toNat < 3 - (k : Int).toNat; omega

            · obtain ⟨l9, HL9⟩ : ∃ l9, Hid (l9 = l0) := ⟨_, Lib.hid rfl⟩
              have HO9' : Hid (OwnT wi.heap.size w9 (.slice a9 m0 c9) l9) := Lib.hid (by rw [HL9.out]; exact HO9.out)
              have HLn : Hid (l9.length = m0) := Lib.hid (by rw [HL9.out, ← HM0.out])
              have HEq : Hid (l9.map adjT = entry rs q) := Lib.hid (by rw [HEN.out, ← HL0.out, HL9.out]; unfold cl; rw [List.take_of_length_le (by rw [← HM0.out]; omega)])
              have HNI9 : Hid (Nine l9) := Lib.hid (by rw [HL9.out]; exact HNI.out)
              have HF9' := HF9
              go_wp2
              go_loopw [8] (fun t wj => ∃ (i : Nat) (x : List Pl.T), i ≤ m0 ∧ t = .int .i64 i ∧ Hid (OwnT wi.heap.size wj (.slice a9 m0 c9) x) ∧ Hid (Half l9 x i) ∧ Hid (New wi wj)) (fun t _ => m0 - (intOf t).toNat)
              case atStart => exact ⟨0, l9, by omega, rfl, HO9', Lib.hid (Half.start _), HF9'⟩
              case round =>
                obtain ⟨i, x, hi2, rfl, HOx, HHf, HFj⟩ := hrel
                by_cases hit : i < m0
                · have hil : i < l9.length := by rw [HLn.out]; exact hit
                  have hix : i < x.length := by rw [HHf.out.1]; exact hil
                  obtain ⟨a8, c8, hs8, _, hs9⟩ := HOx.out.shape
                  rcases hs9 with hs9 | ⟨g, hs9, hgB⟩
                  · rw [hs9] at hix; simp at hix
                  · subst hs9
                    injection hs8 with e8 e8b e9
                    subst e8
                    have HGB := Lib.hid hgB
                    have dd := HOx.out.cells hix
                    have ff := HOx.out.free (i * 2 + 1)
                    have hat := HHf.out.at hil
                    rw [hat] at dd
                    have hb9 := HNI9.out.at hil
                    obtain ⟨e1, H1⟩ : ∃ e, Hid (e = (l9.getD i (0, 0)).1) := ⟨_, Lib.hid rfl⟩
                    obtain ⟨e2, H2⟩ : ∃ e, Hid (e = (l9.getD i (0, 0)).2) := ⟨_, Lib.hid rfl⟩
                    rw [← H1.out, ← H2.out] at dd
                    rw [← H2.out] at hb9
                    obtain ⟨dd1, dd2⟩ := dd
                    obtain ⟨b1, b2⟩ := hb9
                    have i1 : (0 : Int) ≤ (i : Int) := by omega
                    have i2 : (i : Int) < (m0 : Int) := by omega
                    have HIX := Lib.hid hix
                    have HIL := Lib.hid hil
                    clear hgB hat hix hil e8b e9
                    by_cases h0 : e2.tmod 3 = 0
                    · have hb0 : (e2.tmod 3 == 0) = true := by rw [h0]; rfl
                      have HA : Hid (1 = adj (l9.getD i (0, 0)).2) := Lib.hid (by unfold adj; rw [← H2.out, if_pos h0])
                      have HZ0 := Lib.hid h0
                      clear h0
                      go_wp2
                      go_roundw
                      case rel => exact ⟨i + 1, _, by omega, by go_num, Lib.hid (by
                        have h := OwnT.set (OwnT.set HOx.out HIX.out (e2.tmod 3)) (i := i) (by rw [List.length_set]; exact HIX.out) 1
                        rw [Half.twice HIX.out] at h
                        exact h), Lib.hid (Half.step HHf.out HIL.out HA.out), Lib.hid ((HFj.out.setCell (.inr HGB.out) _).setCell (.inr HGB.out) _)⟩
                      case measure => show m0 - ((i : Int) + 1).toNat < m0 - (i : Int).toNat; omega
                    · have hb0 : (e2.tmod 3 == 0) = false := by rw [beq_eq_false_iff_ne]; exact h0
                      have HA : Hid (e2.tmod 3 = adj (l9.getD i (0, 0)).2) := Lib.hid (by unfold adj; rw [← H2.out, if_neg h0])
                      clear h0
                      go_wp2
                      go_roundw
                      case rel => exact ⟨i + 1, _, by omega, by go_num, Lib.hid (OwnT.set HOx.out HIX.out _), Lib.hid (Half.step HHf.out HIL.out HA.out), Lib.hid (HFj.out.setCell (.inr HGB.out) _)⟩
                      case measure => show m0 - ((i : Int) + 1).toNat < m0 - (i : Int).toNat; omega
                · have hii : m0 = i := by omega
                  subst hii
                  have HX9 : Hid (OwnT 0 wr (.slice a9 m0 c9) (entry rs q)) := Lib.hid (by
                    have h := HHf.out
                    rw [← HLn.out] at h
                    rw [← HEq.out, ← h.all]
                    exact HOx.out.base0)
                  have HOy9 : Hid (OwnV wo.heap.size 23 wr _ ys) := Lib.hid (New.own HFj.out HOy.out)
                  have HY9 : Hid (Els (OwnT 0 wr) ys (rowOf rs r k)) := Lib.hid (HY.out.mono fun _ _ h => New.ownT HFj.out h)
                  have HFo9 : Hid (New wo wr) := Lib.hid (HFi.out.trans HFj.out)
                  go_wp2_with (at_builtin; refine wpList_append_own _ rfl _ _ 37 rfl wo.heap.size 23 i1 (.slice none 0 0) 1 24 Tryd.underlying37 hi1 hz10 hz11 hz12 rfl (by decide) _ ys.length ys rfl (OwnV.alloc HOy9.out _) ⟨_, 0, none⟩ 1 1 [(.slice a9 m0 c9)] rfl rfl (cell_one_new _ _ _) (one_sl _ _ _) (by have := HYl.out; unfold maxLen; omega) (by have := HYl.out; omega) (by have := HFo9.out.size; simp; omega) ?_; intro v' w7 hown hgrow _)
                  have HO7 : Hid (OwnV wo.heap.size 23 w7 v' (ys ++ [(.slice a9 m0 c9)])) := Lib.hid (OwnV.snoc hown)
                  have HF7 : Hid (New wo w7) := Lib.hid ((Fr.alloc HFo9.out _).grown hgrow fun k ek => .inr (HOy9.out.lt k ek).1)
                  have HY7 : Hid (Els (OwnT 0 w7) (ys ++ [(.slice a9 m0 c9)]) (rowOf rs r (k + 1))) := Lib.hid (by
                    show Els (OwnT 0 w7) _ (rowOf rs r k ++ [entry rs (r * 3 + k)])
                    rw [← HQ.out]
                    exact Els.snoc (HY9.out.mono fun _ _ h => ownT_kept (by decide) h HOy9.out hgrow) (ownT_kept (by decide) HX9.out HOy9.out hgrow))
                  clear hown hgrow
                  go_wp2
                  go_roundw
                  case rel => exact ⟨k + 1, _, by omega, by go_num, Lib.hid (by rw [List.length_append, HYl.out]; rfl), HO7, HY7, HF7⟩
                  case measure => show 3 - ((k : Int) + 1).toNat < 3 - (k : Int).toNat; omega

          · obtain ⟨l9, HL9⟩ : ∃ l9 : List Pl.T, Hid (l9 = []) := ⟨_, Lib.hid rfl⟩
            have HO9' : Hid (OwnT wi.heap.size wi (.slice none 0 0) l9) := Lib.hid (by rw [HL9.out]; exact OwnT.nil_ _ _)
            have HLn : Hid (l9.length = 0) := Lib.hid (by rw [HL9.out]; rfl)
            have HEq : Hid (l9.map adjT = entry rs q) := Lib.hid (by rw [HL9.out]; unfold entry; rw [if_neg (by rw [← HNR.out]; exact hqn)]; rfl)
            have HF9' : Hid (New wi wi) := Lib.hid (Fr.refl _ _)
            go_wp2
            go_loopw [8] (fun t wj => ∃ (i : Nat) (x : List Pl.T), i ≤ 0 ∧ t = .int .i64 i ∧ Hid (OwnT wi.heap.size wj (.slice none 0 0) x) ∧ Hid (Half l9 x i) ∧ Hid (New wi wj)) (fun t _ => 0 - (intOf t).toNat)
            case atStart => exact ⟨0, l9, by omega, rfl, HO9', Lib.hid (Half.start _), HF9'⟩
            case round =>
              obtain ⟨i, x, hi2, rfl, HOx, HHf, HFj⟩ := hrel
              by_cases hit : i < 0
              · exact absurd hit (by omega)
              · have hii : 0 = i := by omega
                subst hii
                have HX9 : Hid (OwnT 0 wr (.slice none 0 0) (entry rs q)) := Lib.hid (by
                  have h := HHf.out
                  rw [← HLn.out] at h
                  rw [← HEq.out, ← h.all]
                  exact HOx.out.base0)
                have HOy9 : Hid (OwnV wo.heap.size 23 wr _ ys) := Lib.hid (New.own HFj.out HOy.out)
                have HY9 : Hid (Els (OwnT 0 wr) ys (rowOf rs r k)) := Lib.hid (HY.out.mono fun _ _ h => New.ownT HFj.out h)
                have HFo9 : Hid (New wo wr) := Lib.hid (HFi.out.trans HFj.out)
                go_wp2_with (at_builtin; refine wpList_append_own _ rfl _ _ 37 rfl wo.heap.size 23 i1 (.slice none 0 0) 1 24 Tryd.underlying37 hi1 hz10 hz11 hz12 rfl (by decide) _ ys.length ys rfl (OwnV.alloc HOy9.out _) ⟨_, 0, none⟩ 1 1 [(.slice none 0 0)] rfl rfl (cell_one_new _ _ _) (one_sl _ _ _) (by have := HYl.out; unfold maxLen; omega) (by have := HYl.out; omega) (by have := HFo9.out.size; simp; omega) ?_; intro v' w7 hown hgrow _)
                have HO7 : Hid (OwnV wo.heap.size 23 w7 v' (ys ++ [(.slice none 0 0)])) := Lib.hid (OwnV.snoc hown)
                have HF7 : Hid (New wo w7) := Lib.hid ((Fr.alloc HFo9.out _).grown hgrow fun k ek => .inr (HOy9.out.lt k ek).1)
                have HY7 : Hid (Els (OwnT 0 w7) (ys ++ [(.slice none 0 0)]) (rowOf rs r (k + 1))) := Lib.hid (by
                  show Els (OwnT 0 w7) _ (rowOf rs r k ++ [entry rs (r * 3 + k)])
                  rw [← HQ.out]
                  exact Els.snoc (HY9.out.mono fun _ _ h => ownT_kept (by decide) h HOy9.out hgrow) (ownT_kept (by decide) HX9.out HOy9.out hgrow))
                clear hown hgrow
                go_wp2
                go_roundw
                case rel => exact ⟨k + 1, _, by omega, by go_num, Lib.hid (by rw [List.length_append, HYl.out]; rfl), HO7, HY7, HF7⟩
                case measure => show 3 - ((k : Int) + 1).toNat < 3 - (k : Int).toNat; omega

        · obtain rfl : k = 3 := by omega
          obtain ⟨a9, c9, hs9, _⟩ := HOy.out.sl
          rw [HYl.out] at hs9
          subst hs9
          have HR9 : Hid (OwnTRow wi (.slice a9 3 c9) (rowOf rs r 3)) := Lib.hid ⟨ys, HOy.out.base0, HY.out⟩
          have HO9 : Hid (OwnV w.heap.size 37 wi _ xs) := Lib.hid (New.own HFi.out HO.out)
          have HX9 : Hid (Els (OwnTRow wi) xs (tabOf rs r)) := Lib.hid (HX.out.mono fun _ _ h => New.ownTRow HFi.out h)
          have HF9 : Hid (New w wi) := Lib.hid (HF.out.trans HFi.out)
          clear HOy HY
          go_wp2_with (at_builtin; refine wpList_append_own _ rfl _ _ 36 rfl w.heap.size 37 i0 (.slice none 0 0) 1 24 Tryd.underlying36 hi hz0 hz1 hz2 rfl (by decide) _ xs.length xs rfl (OwnV.alloc HO9.out _) ⟨_, 0, none⟩ 1 1 [.slice a9 3 c9] rfl rfl (cell_one_new _ _ _) (one_sl _ _ _) (by have := HXl.out; unfold maxLen; omega) (by have := HXl.out; omega) (by have := HF9.out.size; simp; omega) ?_; intro v' w7 hown hgrow _)
          have HO7 : Hid (OwnV w.heap.size 37 w7 v' (xs ++ [.slice a9 3 c9])) := Lib.hid (OwnV.snoc hown)
          have HF7 : Hid (New w w7) := Lib.hid ((Fr.alloc HF9.out _).grown hgrow fun k ek => .inr (HO9.out.lt k ek).1)
          have HX7 : Hid (Els (OwnTRow w7) (xs ++ [.slice a9 3 c9]) (tabOf rs (r + 1))) := Lib.hid
            (Els.snoc (HX9.out.mono fun _ _ h => h.kept HO9.out hgrow) (HR9.out.kept HO9.out hgrow))
          clear hown hgrow
          go_wp2
          go_roundw
          case rel => exact ⟨r + 1, _, by omega, by go_num, Lib.hid (by rw [List.length_append, HXl.out]; rfl), HO7, HX7, HF7⟩
          case measure => show 3 - ((r : Int) + 1).toNat < 3 - (r : Int).toNat; omega
    · obtain rfl : r = 3 := by omega
      go_wp2
      go_ret
      exact ⟨_, rfl, ⟨xs, HO.out.sl, HX.out.mono fun _ _ h => h.rowT⟩, HF.out⟩
end Go.Proofs.YtjgmlicmjpgfcaaDoor
