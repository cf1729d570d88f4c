/- Walks: the law of Burau's table. -/
import Derived.Test.YtdelekkbkpldjaaDoorQ15m
namespace Go.Proofs.YtdelekkbkpldjaaDoor
open Go.RowKit Go.Maps

/- the rows so far, the places so far -/
def LsR (xs : List Int) (r j : Nat) (rs : List (List Pl.T)) : Prop := rs.length = j ∧ ∀ c, c < j → LsE xs r c (rs.getD c [])
def LsP (xs : List Int) (k r : Nat) (ms : Pl.Tab) : Prop := ms.length = r ∧ ∀ i, i < r → LsR xs i k (ms.getD i [])
theorem LsR.snoc {xs : List Int} {r j : Nat} {rs : List (List Pl.T)} (h : LsR xs r j rs) {m : List Pl.T} (hm : LsE xs r j m) : LsR xs r (j + 1) (rs ++ [m]) := by
  refine ⟨by rw [List.length_append, h.1]; rfl, fun c hc => ?_⟩
  rw [getD_snoc _ _ _ _ (by rw [h.1]; omega), h.1]
  by_cases e : c = j
  · rw [if_pos e, e]; exact hm
  · rw [if_neg e]; exact h.2 c (by omega)
theorem LsP.snoc {xs : List Int} {k r : Nat} {ms : Pl.Tab} (h : LsP xs k r ms) {rs : List (List Pl.T)} (hr : LsR xs r k rs) : LsP xs k (r + 1) (ms ++ [rs]) := by
  refine ⟨by rw [List.length_append, h.1]; rfl, fun c hc => ?_⟩
  rw [getD_snoc _ _ _ _ (by rw [h.1]; omega), h.1]
  by_cases e : c = r
  · rw [if_pos e, e]; exact hr
  · rw [if_neg e]; exact h.2 c (by omega)
theorem LsP.tab {xs : List Int} {k : Nat} {ms : Pl.Tab} (h : LsP xs k k ms) : LsT xs k ms := ⟨h.1, fun i hi => (h.2 i hi).1, fun i j hi hj => (h.2 i hi).2 j hj⟩
theorem TabT.at {w : World} {v : Value} {m : Pl.Tab} (h : TabT w v m) {r : Nat} (hr : r < m.length) : ∃ a c b o, v = .slice a m.length c ∧ a = some ⟨b, o, none⟩ ∧ ∃ a2 c2, w.cell? ⟨b, o + r, none⟩ = some (.slice a2 (m.getD r []).length c2) ∧ RowT w (.slice a2 (m.getD r []).length c2) (m.getD r []) := by
  obtain ⟨vs, ⟨a, c, rfl, hcl⟩, hel⟩ := h
  have hl := hel.len
  obtain ⟨b, o, rfl, d⟩ := (show CellsAt w a vs from hcl).at (k := r) (by omega)
  obtain ⟨xs, ⟨a2, c2, e2, hc2⟩, hel2⟩ := hel.at_ r hr
  have e3 : xs.length = (m.getD r []).length := hel2.len
  rw [e2] at d
  rw [← e3]
  exact ⟨_, c, b, o, by rw [hl], rfl, a2, c2, d, xs, ⟨a2, c2, rfl, hc2⟩, hel2⟩
theorem RowT.at {w : World} {a : Option Addr} {l c : Nat} {r : List (List Pl.T)} (h : RowT w (.slice a l c) r) {j : Nat} (hj : j < r.length) : l = r.length ∧ ∃ b o, a = some ⟨b, o, none⟩ ∧ ∃ v, w.cell? ⟨b, o + j, none⟩ = some v ∧ Ts w v (r.getD j []) := by
  obtain ⟨xs, ⟨a2, c2, e2, hc2⟩, hel2⟩ := h
  have hl := hel2.len
  injection e2 with h1 h2 h3
  subst h1
  obtain ⟨b, o, rfl, d⟩ := (show CellsAt w a xs from hc2).at (k := j) (by omega)
  exact ⟨by omega, b, o, rfl, _, d, hel2.at_ j hj⟩
theorem TabT.atS {w : World} {a : Option Addr} {l c : Nat} {m : Pl.Tab} (h : TabT w (.slice a l c) m) {r : Nat} (hr : r < m.length) : ∃ b o, a = some ⟨b, o, none⟩ ∧ ∃ a2 c2, w.cell? ⟨b, o + r, none⟩ = some (.slice a2 (m.getD r []).length c2) ∧ RowT w (.slice a2 (m.getD r []).length c2) (m.getD r []) := by
  obtain ⟨a1, c1, b, o, e1, e2, h2⟩ := h.at hr
  injection e1 with x1 x2 x3
  exact ⟨b, o, by rw [x1, e2], h2⟩
theorem tabM_of {W : World} {v : Value} {m : Pl.Tab} {k n : Nat} (h : TabW n W v m) (hr : m.length = k) (hc : ∀ i, i < k → (m.getD i []).length = k) : TabM W v k k (Pl.ent m) n := by
  obtain ⟨vs, ⟨a, c, rfl, hcl⟩, hel⟩ := h
  have hl : vs.length = k := by rw [hel.len]; exact hr
  rw [hl]
  refine ⟨a, c, rfl, ?_⟩
  by_cases h0 : k = 0
  · exact .inl h0
  obtain ⟨b, o, rfl, _⟩ := (show CellsAt W a vs from hcl).at (k := 0) (by omega)
  refine .inr ⟨b, o, rfl, fun i hi => ?_⟩
  obtain ⟨b', o', e, d⟩ := (show CellsAt W _ vs from hcl).at (k := i) (by omega)
  injection e with e
  injection e with e1 e2
  subst e1 e2
  obtain ⟨xs, ⟨a2, c2, e2, hc2⟩, hel2⟩ := hel.at_ i (by omega)
  have hxl : xs.length = k := by rw [hel2.len]; exact hc i hi
  rw [hxl] at e2
  refine ⟨_, d, a2, c2, e2, ?_⟩
  obtain ⟨b2, o2, rfl, _⟩ := (show CellsAt W a2 xs from hc2).at (k := 0) (by omega)
  refine .inr ⟨b2, o2, rfl, fun j hj => ?_⟩
  obtain ⟨b3, o3, e, d3⟩ := (show CellsAt W _ xs from hc2).at (k := j) (by omega)
  injection e with e
  injection e with e1 e2
  subst e1 e2
  exact ⟨_, d3, hel2.at_ j (by have := hc i hi; exact Nat.lt_of_lt_of_eq hj this.symm)⟩
theorem bur_mayE {xs : List Int} (h7 : xs.length ≤ 7) {r c : Nat} {m : List Pl.T} (hm : Pl.Is m (Kn.burB xs xs.length r c)) : Pl.May m := by
  obtain ⟨h1, h2, _⟩ := bur_is h7 hm
  exact may_small hm.1 h2 (by omega) (by omega)
theorem may_m1 : Pl.May [((0 : Int), (-1 : Int))] := may_small (B := 0) ⟨by decide, fun v hv => by simp at hv, trivial⟩ (fun u hu => by rw [List.mem_singleton] at hu; subst hu; decide) (by omega) (by decide)
theorem may_p1 : Pl.May [((0 : Int), (1 : Int))] := may_small (B := 0) ⟨by decide, fun v hv => by simp at hv, trivial⟩ (fun u hu => by rw [List.mem_singleton] at hu; subst hu; decide) (by omega) (by decide)
theorem half_may {xs : List Int} (h7 : xs.length ≤ 7) {r c : Nat} {m e : List Pl.T} (hm : Pl.Is m (Kn.burB xs xs.length r c)) (he : Pl.Is e (Pl.mul m [(0, -1)])) : Pl.May e := by
  obtain ⟨h1, h2, _⟩ := ls_half h7 hm he
  exact may_small he.1 h2 (by omega) (by omega)
set_option maxRecDepth 100000 in
set_option maxHeartbeats 4000000 in
theorem burlaw_any (i : Int) (ax : Option Addr) (cx nx : Nat) (X : List Int) (w : World) (i1 : -9223372036854775808 ≤ i) (i2 : i ≤ 9223372036854775807) (hnx : nx = X.length) (hx : IntsAt w ax X) (lx : X.length ≤ 9223372036854775807) (rx : Raw X) :
    Calls Tryd.prog 4 #[.int .i64 i, .slice ax nx cx] w fun e w' => e = .returned (.bool true) ∧ New w w' := by
  have HX := Lib.hid hx
  have HLX := Lib.hid lx
  have HRX := Lib.hid rx
  have HNX := Lib.hid hnx
  obtain ⟨p1, p2⟩ := pick_range (n := i) (m := 3) (by omega)
  have hp := fun W => picked_any i 3 W i1 i2 (by omega) (by omega)
  obtain ⟨p, hpp⟩ := natOf p1
  rw [hpp] at hp p1 p2
  obtain ⟨n, hn⟩ : ∃ n : Nat, (n : Int) = 2 + (p : Int) := ⟨2 + p, by omega⟩
  have h2 : 2 ≤ n := by omega
  have h4 : n ≤ 4 := by omega
  have HPK := Lib.hid hp
  clear hx lx rx hnx hp p1 hpp
  go_enter Tryd.func4, Tryd.ntmps4
  go_wp2_with fail
  refine (HPK.out _).mono ?_
  rintro e w' ⟨rfl, rfl⟩
  go_wp2_with fail
  rw [← hn]
  have HNP := Lib.hid hn
  clear hn p2
  refine (wordOwn_any ax nx cx n 7 _ _ X _ rfl rfl HNX.out h2 (by omega) (by omega) HX.out HLX.out HRX.out).mono ?_
  rintro e w1 ⟨xs, hxw, hxl, vx, rfl, hox, hn1⟩
  have HN1 := Lib.hid hn1
  obtain ⟨bx, kx, rfl, hix, _⟩ := IntsAt.of_owns hox
  have HXW := Lib.hid hxw
  have HXI := Lib.hid hix
  obtain ⟨lx, HLX'⟩ : ∃ l, Hid (l = xs.length) := ⟨_, Lib.hid rfl⟩
  rw [← HLX'.out] at hxl ⊢
  clear hn1 hox hix hxw
  go_wp2_with fail
  refine (burau_any bx lx kx n _ xs _ rfl HLX'.out h2 h4 HXI.out HXW.out (by rw [← HLX'.out]; exact hxl)).mono ?_
  rintro e w2 ⟨v2, m, rfl, ht2, hn2, hm⟩
  have HN2 : Hid (New w w2) := Lib.hid (HN1.out.trans hn2)
  have HT2 := Lib.hid ht2
  have HM := Lib.hid hm
  have HXI2 := Lib.hid (New.ints hn2 HXI.out)
  obtain ⟨am, cm, _, _, rfl, -, -⟩ := ht2.at (r := 0) (by rw [hm.1]; omega)
  have hml : m.length = n := hm.1
  rw [hml] at HT2 ⊢
  clear hml
  clear hn2 ht2 hm HXI
  go_wp2_with fail
  refine (closeR_any bx lx kx n _ xs _ rfl HLX'.out h2 (by omega) HXI2.out HXW.out (by have := HLX'.out; omega)).mono ?_
  rintro e w3 ⟨a3, c3, A3, rfl, hc3, hn3⟩
  have HC3 := Lib.hid hc3
  have HN3 := Lib.hid (HN2.out.trans hn3)
  have HT3 := Lib.hid (hn3.tabT HT2.out)
  clear hc3 hn3 HT2
  go_wp2_with fail
  obtain ⟨v3, HV3⟩ : ∃ v, Hid (v = w3.alloc (.cells #[.slice a3 lx c3, .int .i64 (LpC n xs : Nat)] 27)) := ⟨_, Lib.hid rfl⟩
  have HNv3 : Hid (New w v3) := Lib.hid (by rw [HV3.out]; exact HN3.out.alloc _)
  have HC3 : Hid (CloA v3 xs a3 A3) := Lib.hid (HC3.out.new (by rw [HV3.out]; exact (Fr.refl _ _).alloc _))
  have HT3 : Hid (TabT v3 (.slice am n cm) m) := Lib.hid (by rw [HV3.out]; exact New.tabT ((Fr.refl _ _).alloc _) HT3.out)
  rw [← HV3.out]
  clear HV3 HN3
  refine (alexR_any a3 lx c3 n xs A3 v3 HLX'.out HC3.out HXW.out h2 (by omega) (by have := HLX'.out; omega)).mono ?_
  rintro e w4 ⟨hn4, va1, r1, rfl, hta1, hsa1, hla1, ha1⟩
  have HA1 := Lib.hid ha1
  have HTA1 := Lib.hid hta1
  have HLA1 := Lib.hid hla1
  have HSA1 := Lib.hid hsa1
  have HN4 := Lib.hid (HNv3.out.trans hn4)
  have HT4 := Lib.hid (hn4.tabT HT3.out)
  clear hn4 ha1 hta1 hla1 hsa1 HT3
  obtain ⟨i0, hi, hz0, hz1, hz2⟩ := info_parts info33t
  obtain ⟨j1, hi1, hz10, hz11, hz12⟩ := info_parts info41t
  obtain ⟨k, HK, hnk, k1, k3⟩ : ∃ k : Nat, Hid (n = k + 1) ∧ (n : Int) - 1 = (k : Int) ∧ 1 ≤ k ∧ k ≤ 3 := ⟨n - 1, Lib.hid (by omega), by omega, by omega, by omega⟩
  go_wp2_with fail
  go_loopw [13, 14] (fun out i wr => ∃ (r : Nat) (vs : List Value) (ms : Pl.Tab), r ≤ k ∧ i = .int .i64 r ∧ Hid (vs.length = r) ∧ Hid (OwnV w4.heap.size 41 wr out vs) ∧ Hid (ElsP (OwnTRow wr) vs ms) ∧ Hid (LsP xs k r ms) ∧ Hid (New w4 wr)) (fun _ i _ => k - (intOf i).toNat)
  case atStart => exact ⟨0, [], [], by omega, rfl, Lib.hid rfl, Lib.hid (World.ownsRow_nil _ _ _ _), Lib.hid ElsP.nil, Lib.hid ⟨rfl, fun i hi => absurd hi (by omega)⟩, Lib.hid (Fr.refl _ _)⟩
  case round =>
    obtain ⟨r, vs, ms, hr, rfl, HVl, HO, HX, HP, HF⟩ := hrel
    obtain ⟨wo, rfl⟩ : ∃ wo : World, wo = wr := ⟨_, rfl⟩
    by_cases hrk : r < k
    · obtain ⟨b, o, rfl, a2, c2, d0, hrow⟩ := HT4.out.atS (r := r) (by rw [HM.out.1]; have := HK.out; omega)
      have hrl : (m.getD r []).length = n := (HM.out.2 r (by have := HK.out; omega)).1
      rw [hrl] at d0 hrow
      have HD0 := Lib.hid d0
      have HROW := Lib.hid hrow
      have HRL := Lib.hid hrl
      have i3 : (0 : Int) ≤ (r : Int) := by omega
      have i4 : (r : Int) < (n : Int) := by have := HK.out; omega
      clear d0 hrow hrl
      go_wp2_with fail
      go_loopw [15, 16] (fun lv i wi => ∃ (j : Nat) (ys : List Value) (rs : List (List Pl.T)), j ≤ k ∧ i = .int .i64 j ∧ Hid (ys.length = j) ∧ Hid (OwnV wo.heap.size 33 wi lv ys) ∧ Hid (ElsP (OwnT 0 wi) ys rs) ∧ Hid (LsR xs r j rs) ∧ Hid (New wo wi)) (fun _ i _ => k - (intOf i).toNat)
      case atStart => exact ⟨0, [], [], by omega, rfl, Lib.hid rfl, Lib.hid (World.ownsRow_nil _ _ _ _), Lib.hid ElsP.nil, Lib.hid ⟨rfl, fun i hi => absurd hi (by omega)⟩, Lib.hid (Fr.refl _ _)⟩
      case round =>
        obtain ⟨j, ys, rs, hj, rfl, HYl, HOy, HY, HPr, HFi⟩ := hrel
        by_cases hjk : j < k
        · obtain ⟨-, b2, o2, rfl, x, d1, hts⟩ := HROW.out.at (j := j) (by rw [HRL.out]; have := HK.out; omega)
          have hn4 : New w4 wr := HF.out.trans HFi.out
          have d0 := hn4.cell HD0.out fun x => x
          have d1 := hn4.cell d1 fun x => x
          have d0' := cell_alloc d0 (.cells #[.int .i64 0, .int .i64 (-1)] 44)
          have HTS : Hid (Ts wr x (Pl.ent m r j)) := Lib.hid (New.ts hn4 hts)
          have HIS : Hid (Pl.Is (Pl.ent m r j) (Kn.burB xs xs.length r j)) := Lib.hid ((HM.out.2 r (by have := HK.out; omega)).2 j (by have := HK.out; omega))
          have i5 : (0 : Int) ≤ (j : Int) := by omega
          have i6 : (j : Int) < (n : Int) := by have := HK.out; omega
          clear hts hn4
          go_wp2_with fail
          refine (mulO_any x _ (Pl.ent m r j) [(0, -1)] _ (New.ts ((Fr.refl _ _).alloc _) HTS.out) (ts_one wr 0 (-1)) (bur_mayE (by have := HLX'.out; omega) HIS.out) may_m1).mono ?_
          rintro e w6 ⟨m6, v6, hm6, rfl, hv6, hn6⟩
          have HM6 := Lib.hid hm6
          have HV6 := Lib.hid hv6
          have HN6 : Hid (New wr w6) := Lib.hid (((Fr.refl _ _).alloc _).trans hn6)
          obtain ⟨a9, c9, rfl, _⟩ := hv6.ts
          clear hm6 hv6 hn6 d0 d1 d0'
          by_cases hrc : r = j
          · subst hrc
            go_wp2_with fail
            refine (plusO_any _ _ m6 [(0, 1)] _ (New.ts ((Fr.refl _ _).alloc _) HV6.out.ts) (ts_one w6 0 1) (half_may (by have := HLX'.out; omega) HIS.out HM6.out) may_p1).mono ?_
            rintro e w8 ⟨m8, hm8, v8, rfl, hv8, hn8⟩
            have HM8 := Lib.hid hm8
            have HV8 := Lib.hid hv8
            have hx8 : New wr w8 := HN6.out.trans (((Fr.refl _ _).alloc _).trans hn8)
            clear HV6
            obtain ⟨a9, c9, rfl, _⟩ := hv8.ts
            clear hm8 hv8 hn8
            have HOy8 : Hid (OwnV wo.heap.size 33 w8 _ ys) := Lib.hid (New.own hx8 HOy.out)
            have HY8 : Hid (ElsP (OwnT 0 w8) ys rs) := Lib.hid (HY.out.mono fun _ _ h => New.ownT hx8 h)
            have HF8 : Hid (New wo w8) := Lib.hid (HFi.out.trans hx8)
            obtain ⟨ml, HMl⟩ : ∃ z, Hid (z = m8.length) := ⟨_, Lib.hid rfl⟩
            rw [← HMl.out] at HV8 ⊢
            clear hx8
            go_wp2_with (at_builtin; refine wpList_append_own _ rfl _ _ 41 rfl wo.heap.size 33 i0 (.slice none 0 0) 1 24 Tryd.underlying41 hi hz0 hz1 hz2 rfl (by decide) _ ys.length ys rfl (OwnV.alloc HOy8.out _) ⟨_, 0, none⟩ 1 1 [.slice a9 ml c9] rfl rfl ?c2 ?c3 ?c4 ?c5 ?c6 ?_)
            case c2 => exact cell_one_new _ _ _
            case c3 => intro u hu; rw [List.mem_singleton] at hu; subst hu; rfl
            case c4 => have := HYl.out; unfold maxLen; omega
            case c5 => have := HYl.out; omega
            case c6 => have := HF8.out.size; simp; omega
            intro v' w9 hown hgrow _
            have HO9 : Hid (OwnV wo.heap.size 33 w9 v' (ys ++ [.slice a9 ml c9])) := Lib.hid (OwnV.snoc hown)
            have HF9 : Hid (New wo w9) := Lib.hid ((Fr.alloc HF8.out _).grown hgrow fun k ek => .inr (HOy8.out.lt k ek).1)
            have HY9 : Hid (ElsP (OwnT 0 w9) (ys ++ [.slice a9 ml c9]) (rs ++ [m8])) := Lib.hid (ElsP.snoc (HY8.out.mono fun _ _ h => ownT_kept (by decide) h HOy8.out hgrow) (ownT_kept (by decide) HV8.out HOy8.out hgrow))
            clear hown hgrow
            go_wp2
            go_roundw
            case rel => exact ⟨r + 1, _, _, by omega, by go_num, Lib.hid (by rw [List.length_append, HYl.out]; rfl), HO9, HY9, Lib.hid (HPr.out.snoc (ls_on (by have := HLX'.out; omega) HIS.out HM6.out HM8.out)), HF9⟩
            case measure => show k - ((r : Int) + 1).toNat < k - (r : Int).toNat; omega
          · have hne : ¬ (r : Int) = (j : Int) := by omega
            have hx8 : New wr w6 := HN6.out
            have HV8 := HV6
            have HOy8 : Hid (OwnV wo.heap.size 33 w6 _ ys) := Lib.hid (New.own hx8 HOy.out)
            have HY8 : Hid (ElsP (OwnT 0 w6) ys rs) := Lib.hid (HY.out.mono fun _ _ h => New.ownT hx8 h)
            have HF8 : Hid (New wo w6) := Lib.hid (HFi.out.trans hx8)
            obtain ⟨ml, HMl⟩ : ∃ z, Hid (z = m6.length) := ⟨_, Lib.hid rfl⟩
            rw [← HMl.out] at HV8 ⊢
            clear hx8
            go_wp2_with (at_builtin; refine wpList_append_own _ rfl _ _ 41 rfl wo.heap.size 33 i0 (.slice none 0 0) 1 24 Tryd.underlying41 hi hz0 hz1 hz2 rfl (by decide) _ ys.length ys rfl (OwnV.alloc HOy8.out _) ⟨_, 0, none⟩ 1 1 [.slice a9 ml c9] rfl rfl ?c2 ?c3 ?c4 ?c5 ?c6 ?_)
            case c2 => exact cell_one_new _ _ _
            case c3 => intro u hu; rw [List.mem_singleton] at hu; subst hu; rfl
            case c4 => have := HYl.out; unfold maxLen; omega
            case c5 => have := HYl.out; omega
            case c6 => have := HF8.out.size; simp; omega
            intro v' w9 hown hgrow _
            have HO9 : Hid (OwnV wo.heap.size 33 w9 v' (ys ++ [.slice a9 ml c9])) := Lib.hid (OwnV.snoc hown)
            have HF9 : Hid (New wo w9) := Lib.hid ((Fr.alloc HF8.out _).grown hgrow fun k ek => .inr (HOy8.out.lt k ek).1)
            have HY9 : Hid (ElsP (OwnT 0 w9) (ys ++ [.slice a9 ml c9]) (rs ++ [m6])) := Lib.hid (ElsP.snoc (HY8.out.mono fun _ _ h => ownT_kept (by decide) h HOy8.out hgrow) (ownT_kept (by decide) HV8.out HOy8.out hgrow))
            clear hown hgrow
            go_wp2
            go_roundw
            case rel => exact ⟨j + 1, _, _, by omega, by go_num, Lib.hid (by rw [List.length_append, HYl.out]; rfl), HO9, HY9, Lib.hid (HPr.out.snoc (ls_off (by have := HLX'.out; omega) hrc HIS.out HM6.out)), HF9⟩
            case measure => show k - ((j : Int) + 1).toNat < k - (j : Int).toNat; omega
        · obtain rfl : k = j := by omega
          obtain ⟨a9, c9, hs9, _⟩ := HOy.out.sl
          rw [HYl.out] at hs9
          subst hs9
          have HR9 : Hid (OwnTRow wr (.slice a9 k c9) rs) := Lib.hid ⟨ys, HOy.out.base0, HY.out⟩
          have HO9 : Hid (OwnV w4.heap.size 41 wr _ vs) := Lib.hid (New.own HFi.out HO.out)
          have HX9 : Hid (ElsP (OwnTRow wr) vs ms) := Lib.hid (HX.out.mono fun _ _ h => New.ownTRow HFi.out h)
          have HF9 : Hid (New w4 wr) := Lib.hid (HF.out.trans HFi.out)
          clear HOy HY
          go_wp2_with (at_builtin; refine wpList_append_own _ rfl _ _ 38 rfl w4.heap.size 41 j1 (.slice none 0 0) 1 24 Tryd.underlying38 hi1 hz10 hz11 hz12 rfl (by decide) _ vs.length vs rfl (OwnV.alloc HO9.out _) ⟨_, 0, none⟩ 1 1 [.slice a9 k c9] rfl rfl ?e2 ?e3 ?e4 ?e5 ?e6 ?_)
          case e2 => exact cell_one_new _ _ _
          case e3 => intro u hu; rw [List.mem_singleton] at hu; subst hu; rfl
          case e4 => have := HVl.out; unfold maxLen; omega
          case e5 => have := HVl.out; omega
          case e6 => have := HF9.out.size; simp; omega
          intro v' w7 hown hgrow _
          have HO7 : Hid (OwnV w4.heap.size 41 w7 v' (vs ++ [.slice a9 k c9])) := Lib.hid (OwnV.snoc hown)
          have HF7 : Hid (New w4 w7) := Lib.hid ((Fr.alloc HF9.out _).grown hgrow fun k ek => .inr (HO9.out.lt k ek).1)
          have HX7 : Hid (ElsP (OwnTRow w7) (vs ++ [.slice a9 k c9]) (ms ++ [rs])) := Lib.hid (ElsP.snoc (HX9.out.mono fun _ _ h => h.kept HO9.out hgrow) (HR9.out.kept HO9.out hgrow))
          clear hown hgrow
          go_wp2
          go_roundw
          case rel => exact ⟨r + 1, _, _, by omega, by go_num, Lib.hid (by rw [List.length_append, HVl.out]; rfl), HO7, HX7, Lib.hid (HP.out.snoc HPr.out), HF7⟩
          case measure => show k - ((r : Int) + 1).toNat < k - (r : Int).toNat; omega
    · obtain rfl : k = r := by omega
      obtain ⟨out, HOut⟩ : ∃ v, Hid (v = u13) := ⟨_, Lib.hid rfl⟩
      have HTT : Hid (TabT wo u13 ms) := Lib.hid ⟨vs, HO.out.sl, HX.out.mono fun _ _ h => h.rowT⟩
      have HLT : Hid (LsT xs k ms) := Lib.hid HP.out.tab
      have HNo : Hid (New w wo) := Lib.hid (HN4.out.trans HF.out)
      have HTA := Lib.hid (New.ts HF.out HTA1.out)
      by_cases hbg : ∃ l ∈ ms.flatten, 100 < Pl.size l
      · go_wp2_with fail
        refine (detR_any _ ms k wo HTT.out (HLT.out.sqy k3) hbg).mono ?_
        rintro e w5 ⟨rfl, hn5⟩
        have HN5 : Hid (New w w5) := Lib.hid (HNo.out.trans hn5)
        clear hn5
        go_wp2_with fail
        go_ret
        exact ⟨rfl, HN5.out⟩
      · have hq := HLT.out.big k3 hbg
        have HQ := Lib.hid hq
        have HB := Lib.hid (HLT.out.dtb k3 hq)
        clear hq
        go_wp2_with fail
        refine (detP_any _ ms k (2 * (k * 7) + 1) (Pl.dt ms k (2 ^ k - 1)) wo HTT.out HQ.out (by omega) ?hD).mono ?_
        case hD => exact fun W v hv => det_any v ms k 300 7 17 W (tabM_of hv HQ.out.rows HQ.out.cols) HB.out (by omega)
        rintro e w5 ⟨f, vf, hf, rfl, hvf, hn5⟩
        have HFF := Lib.hid hf
        have HVF := Lib.hid hvf
        have HN5 : Hid (New w w5) := Lib.hid (HNo.out.trans hn5)
        have HTA5 := Lib.hid (New.ts hn5 HTA.out)
        have HMY : Hid (Pl.May f ∧ ∀ c, NrmOf f c → r1 = c) := Lib.hid (by
          obtain ⟨_, N, hN⟩ := HC3.out
          exact bur_may hN HXW.out HK.out k1 k3 (by have := HLX'.out; omega) HLT.out HB.out HFF.out HA1.out HSA1.out)
        clear hf hvf hn5
        go_wp2_with fail
        refine (unit_any vf f w5 HVF.out HMY.out.1).mono ?_
        rintro e w6 ⟨vc, cc, rfl, hts, hn6, hc⟩
        have HTC := Lib.hid hts
        have HC := Lib.hid (HMY.out.2 cc hc)
        have HLC : Hid (cc.length ≤ 1000000) := Lib.hid (by rw [← HC.out]; exact HLA1.out)
        have HN6 : Hid (New w w6) := Lib.hid (HN5.out.trans hn6)
        have HTA6 := Lib.hid (New.ts hn6 HTA5.out)
        clear hts hn6 hc
        go_wp2_with fail
        refine (same_any va1 vc r1 cc w6 HTA6.out HTC.out HLA1.out HLC.out).mono ?_
        rintro e w7 ⟨rfl, hn7⟩
        rw [decide_eq_true HC.out]
        have HN7 : Hid (New w w7) := Lib.hid (HN6.out.trans hn7)
        clear hn7
        go_wp2_with fail
        go_ret
        exact ⟨rfl, HN7.out⟩
end Go.Proofs.YtdelekkbkpldjaaDoor
