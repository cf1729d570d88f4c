/- Walks: diagram. -/
import Derived.Test.YtcfpdeeipbekfaaT9b
namespace Go.Proofs.Ytcfpdeeipbekfaa
open Go.RowKit

set_option maxRecDepth 100000 in
set_option maxHeartbeats 16000000 in
theorem diagram_any (B0 b mt nn n : Nat) (v : Value) (t : Kn.Tg) (w : World) (h : TgAt B0 w b mt nn v t) (hn : n = t.many) (h16 : n ≤ 16) (hl : t.loops ≤ 1000) (X : List Kn.Cr) (L : Nat) (hX : t.diagramC = some (X, L)) :
    Calls Try.prog 17 #[.pointer (some ⟨b, 0, none⟩)] w fun e w' => ∃ sv, e = .returned (.agg #[sv, .int .i64 (L : Nat)]) ∧ w'.ownsRow w.heap.size 81 5 sv X.length (crCells X) ∧ New w w' := by
  have H := Lib.hid h
  have HN := Lib.hid hn
  obtain ⟨eR, WR, hR, hin, hp4, hXW, rfl⟩ := diag_rings hX
  have HIN := Lib.hid hin
  have HP4 : Hid (∀ j, j < 4 * n → t.places.getD j 9 < 4) := Lib.hid (fun j hj => by
    have hl := h.plen
    rw [List.getD_eq_getElem?_getD, List.getElem?_eq_getElem (by omega)]
    exact hp4 _ (List.getElem_mem _))
  rw [← hn] at hR hXW
  have HR := Lib.hid hR
  have HXW := Lib.hid hXW
  obtain ⟨x16, x17, x18⟩ := h.rest
  have hm65 := fun w => make65 n (by omega) w
  have hm73 := fun w => make73 n (by omega) w
  have hmm := @run_makeMap Try.prog
  have ho := h.own
  rw [← hn] at ho
  obtain ⟨a5, c5, rfl, _⟩ := own_shape2 ho
  clear ho
  have kb : b < w.heap.size := World.block_lt_of_cell? _ _ x16
  have kb1 : b < w.heap.size + 1 := by omega
  have kb2 : b < w.heap.size + 1 + 1 := by omega
  have kb3 : b < w.heap.size + 1 + 1 + 1 := by omega
  have kb4 : b < w.heap.size + 1 + 1 + 1 + 1 := by omega
  have e0 : (w.alloc (.cells #[.slice none 0 0, .int .i64 0] 29)).heap.size = w.heap.size + 1 := by simp
  clear h hn x17 x18 hp4 hR hXW hX hin
  go_enter Try.func17, Try.ntmps17
  go_upto_region 1 with fail
  go_cut [3] (fun s3 wx => Hid (Made (w.alloc (.cells #[.slice none 0 0, .int .i64 0] 29)) wx b n s3))
  case first =>
    go_region
    all_goals (go_wp2_with fail)
    all_goals go_meet
    all_goals
      refine' Lib.hid (Made.drew ⟨_, _, _, _, rfl, ?nw, ?sz, ?blk, ?mpk, ?abk, ?ibk⟩)
      case blk => rw [← e0]; exact (al4 _ _ _ _ _).2.2.2.2
      case nw => exact (al4 _ _ _ _ _).1
      case sz => rw [e0]; omega
      case mpk => rw [← e0]; first | exact (al4 _ _ _ _ _).2.1 | exact (al4 _ _ _ _ _).2.2.1 | exact (al4 _ _ _ _ _).2.2.2.1
      case abk => rw [← e0]; first | exact (al4 _ _ _ _ _).2.1 | exact (al4 _ _ _ _ _).2.2.1 | exact (al4 _ _ _ _ _).2.2.2.1
      case ibk => rw [← e0]; first | exact (al4 _ _ _ _ _).2.1 | exact (al4 _ _ _ _ _).2.2.1 | exact (al4 _ _ _ _ _).2.2.2.1
  case rest =>
  obtain ⟨w0, HW0⟩ : ∃ z, Hid (z = w.alloc (.cells #[.slice none 0 0, .int .i64 0] 29)) := ⟨_, Lib.hid rfl⟩
  have HN0 : Hid (New w w0) := Lib.hid (by rw [HW0.out]; exact (Fr.refl _ _).alloc _)
  obtain ⟨rb, HRB⟩ : ∃ z, Hid (z = w.heap.size) := ⟨_, Lib.hid rfl⟩
  have HRB0 : Hid (w0.heap[rb]? = some (.cells #[.slice none 0 0, .int .i64 0] 29 (0, 0))) := Lib.hid (by rw [HW0.out, HRB.out]; exact heap_alloc_new w _)
  have hma := Hid.out hcut
  rw [← HW0.out] at hma
  rw [← HRB.out]
  obtain ⟨wb, mp, ab, ib, rfl, hN1, hsz, hWP⟩ := hma.start (H.out.new HN0.out) HN.out
  obtain ⟨w1, rfl⟩ : ∃ w1, w1 = wc := ⟨_, rfl⟩
  have HN1 : Hid (New w0 w1) := Lib.hid hN1
  have HWP := Lib.hid hWP
  have HSZ := Lib.hid hsz
  have HMT : Hid (mt ≠ mp) := Lib.hid (by
    obtain ⟨e1, q1, h1⟩ := H.out.tie.block
    have := (Array.getElem?_eq_some_iff.1 h1).1
    have := HN0.out.size
    omega)
  clear hcut hma hN1 hsz hWP HW0 e0 x16 kb kb1 kb2 kb3 kb4
  have g16 := HWP.out.tg.rest.1
  go_wp2_with fail
  clear g16
  go_loopw [36] (fun cv wr => ∃ c np : Nat, c ≤ n ∧ np ≤ 4 * c ∧ cv = .int .i64 c ∧ Hid (WkP B0 wr wb b mt nn mp np ab ib n (c * 4) (c * 2) (Value.slice a5 n c5) t) ∧ Hid (New w0 wr)) (fun cv _ => n - (intOf cv).toNat)
  case atStart => exact ⟨0, 0, by omega, by omega, rfl, HWP, HN1⟩
  case round =>
    obtain ⟨c, np, hc, hnp, rfl, HW, HFr⟩ := hrel
    by_cases hlt : c < n
    · obtain ⟨g, cp, eg, hpl⟩ := HW.out.place (by omega)
      cases eg
      have a0 := hpl (c * 4) (by omega)
      have a1 := hpl (c * 4 + 1) (by omega)
      have a2 := hpl (c * 4 + 2) (by omega)
      have a3 := hpl (c * 4 + 3) (by omega)
      have i1 : (0 : Int) ≤ (c : Int) := by omega
      have i2 : (c : Int) < (n : Int) := by omega
      obtain ⟨p0, HP0⟩ : ∃ z, Hid (z = t.places.getD (c * 4) 9) := ⟨_, Lib.hid rfl⟩
      obtain ⟨p1, HP1⟩ : ∃ z, Hid (z = t.places.getD (c * 4 + 1) 9) := ⟨_, Lib.hid rfl⟩
      obtain ⟨p2, HP2⟩ : ∃ z, Hid (z = t.places.getD (c * 4 + 2) 9) := ⟨_, Lib.hid rfl⟩
      obtain ⟨p3, HP3⟩ : ∃ z, Hid (z = t.places.getD (c * 4 + 3) 9) := ⟨_, Lib.hid rfl⟩
      rw [← HP0.out] at a0
      rw [← HP1.out] at a1
      rw [← HP2.out] at a2
      rw [← HP3.out] at a3
      clear hpl
      go_upto_region 5 with fail
      obtain ⟨u1, HU1⟩ : ∃ z, Hid (z = wr.alloc (.cells #[.int .i64 (p0 : Nat), .int .i64 (p1 : Nat), .int .i64 (p2 : Nat), .int .i64 (p3 : Nat)] 71)) := ⟨_, Lib.hid rfl⟩
      obtain ⟨pb, HPB⟩ : ∃ z, Hid (z = wr.heap.size) := ⟨_, Lib.hid rfl⟩
      have HN2 : Hid (New wr u1) := Lib.hid (by rw [HU1.out]; exact (Fr.refl _ _).alloc _)
      have HPBB : Hid (u1.heap[pb]? = some (.cells #[.int .i64 (p0 : Nat), .int .i64 (p1 : Nat), .int .i64 (p2 : Nat), .int .i64 (p3 : Nat)] 71 (0, 0))) := Lib.hid (by rw [HU1.out, HPB.out]; exact heap_alloc_new wr _)
      have HPS : Hid (w0.heap.size ≤ pb) := Lib.hid (by rw [HPB.out]; exact HFr.out.size)
      rw [← HU1.out, ← HPB.out]
      have HW1 := Lib.hid (HW.out.new HN2.out)
      clear a0 a1 a2 a3 HU1 HPB
      obtain ⟨z0, z1, z2, z3⟩ := four_c HW1.out.blk
      have b0 := HW1.out.inn.cell (i := c * 2) (by omega)
      have b1 := HW1.out.inn.cell (i := c * 2 + 1) (by omega)
      have f0 := HW1.out.inn.frozen (c * 2)
      have f1 := HW1.out.inn.frozen (c * 2 + 1)
      go_upto_region 6 with fail
      obtain ⟨u2, HU2⟩ : ∃ z, Hid (z = (u1.setCell ⟨ib, c * 2, none⟩ (.int .i64 (-1))).setCell ⟨ib, c * 2 + 1, none⟩ (.int .i64 (-1))) := ⟨_, Lib.hid rfl⟩
      have HF2 : Hid (Fr (fun k => k = ib) u1 u2) := Lib.hid (by rw [HU2.out]; exact ((Fr.refl (fun k => k = ib) _).setCell (a := ⟨ib, c * 2, none⟩) (.inl rfl) _).setCell (a := ⟨ib, c * 2 + 1, none⟩) (.inl rfl) _)
      have HW2 : Hid (WkP B0 u2 wb b mt nn mp np ab ib n (c * 4) ((c + 1) * 2) (Value.slice (some ⟨g, 0, none⟩) n c5) t) := Lib.hid (by rw [HU2.out]; exact HW1.out.setI2 rfl)
      have HPB2 := Lib.hid (HF2.out.blk HPBB.out (blk_ne HPBB.out HW1.out.inn (by decide)))
      have HFr2 : Hid (New w0 u2) := Lib.hid ((HFr.out.trans HN2.out).next HF2.out fun i hi => .inr (by rw [hi]; exact HSZ.out.2.2.2))
      rw [← HU2.out]
      clear b0 b1 f0 f1 z0 z1 z2 z3 HU2
      obtain ⟨a0, a1, a2, a3⟩ := four_c HPB2.out
      go_wp2_with fail
      clear a0 a1 a2 a3
      obtain ⟨wo, rfl⟩ : ∃ wo, wo = u2 := ⟨_, rfl⟩
      go_loopw [49] (fun iv wr => ∃ i np : Nat, i ≤ 4 ∧ np ≤ c * 4 + i ∧ iv = .int .i64 i ∧ Hid (WkP B0 wr wb b mt nn mp np ab ib n (c * 4 + i) ((c + 1) * 2) (Value.slice (some ⟨g, 0, none⟩) n c5) t) ∧ Hid (New w0 wr)) (fun iv _ => 4 - (intOf iv).toNat)
      case atStart => exact ⟨0, np, by omega, by omega, rfl, HW2, HFr2⟩
      case round =>
        obtain ⟨i, np', hi4, hnp', rfl, HWi, HFi⟩ := hrel
        by_cases hlt4 : i < 4
        · obtain ⟨z0, z1, z2, z3⟩ := four_c HWi.out.blk
          obtain ⟨x, HX⟩ : ∃ z, Hid (z = t.places.getD (c * 4 + i) 9) := ⟨_, Lib.hid rfl⟩
          have hix := fun W => ix68 p0 p1 p2 p3 i hlt4 W
          have hx : (if i = 0 then (p0 : Int) else if i = 1 then (p1 : Int) else if i = 2 then (p2 : Int) else (p3 : Int)) = (x : Nat) := by
            have h4 : i = 0 ∨ i = 1 ∨ i = 2 ∨ i = 3 := by omega
            rcases h4 with rfl | rfl | rfl | rfl
            · rw [if_pos rfl, HX.out, HP0.out]; rfl
            · rw [if_neg (by decide), if_pos rfl, HX.out, HP1.out]
            · rw [if_neg (by decide), if_neg (by decide), if_pos rfl, HX.out, HP2.out]
            · rw [if_neg (by decide), if_neg (by decide), if_neg (by decide), HX.out, HP3.out]
          simp only [hx] at hix
          have hx4 : x < 4 := by rw [HX.out]; exact HP4.out _ (by omega)
          obtain ⟨kl, hkey⟩ := plKey (p := (c, x)) ⟨by omega, hx4⟩
          obtain ⟨D, hown, hd⟩ := HWi.out.pm
          have HD := Lib.hid hd
          have HO := Lib.hid hown
          have HK := Lib.hid hkey
          clear hx hd hown hkey
          go_wp2_with (at_mapUpdate; refine wpList_mapUpdate_own _ rfl _ _ _ 75 rfl 63 3 Try.law63 Try.ul75 _ mp np' D rfl HO.out (by unfold maxLen; omega) _ _ kl rfl rfl HK.out _ [] (plainElem_int Try.underlying3 (wf64 (by omega))) ?_; intro w5 hown5 hg5; have HO5 := Lib.hid hown5; have HG5 := Lib.hid hg5; clear hown5 hg5)
          have HF5 : Hid (Fr (fun k => k = mp) wr w5) := Lib.hid ((Fr.refl _ wr).grown HG5.out fun j e => .inl (Option.some.inj e).symm)
          go_roundw
          case rel =>
            refine ⟨i + 1, np' + 1, by omega, by omega, by go_num, Lib.hid (HWi.out.putM HF5.out ⟨_, HO5.out, HD.out.put HK.out⟩ HMT.out ?_), Lib.hid (HFi.out.next HF5.out fun i hi => .inr (by rw [hi]; exact HSZ.out.2.1))⟩
            rw [show c * 4 + (i + 1) = c * 4 + i + 1 by omega, placeF_succ, show (c * 4 + i) / 4 = c by omega, show (c * 4 + i) % 4 = i by omega, ← HX.out]
          case measure => simp [intOf]; omega
        · obtain rfl : 4 = i := by omega
          go_wp2
          go_roundw
          case rel => exact ⟨c + 1, np', by omega, by omega, by go_num, Lib.hid (by rw [show (c + 1) * 4 = c * 4 + 4 by omega]; exact HWi.out), HFi⟩
          case measure => simp [intOf]; omega
    · obtain rfl : n = c := by omega
      have HW1 : Hid (WkAt B0 wr wb b mt nn mp np ab ib n (Value.slice a5 n c5) t ⟨List.replicate (4 * n) 0, List.replicate (2 * n) (-1)⟩) := Lib.hid (by
        have h1 := HW.out
        rw [show n * 4 = 4 * n by omega, show n * 2 = 2 * n by omega] at h1
        exact h1.wk)
      have HV : Hid (∀ k, (Value.slice a5 n c5).ownBlock = some k → ¬ k = ab) := Lib.hid (by
        intro k hk e
        obtain ⟨o, ho, _⟩ := own_cells H.out.own k hk
        have := (Array.getElem?_eq_some_iff.1 ho).1
        have := HN0.out.size
        have := HSZ.out.2.2.1
        omega)
      have g16 := HW1.out.tg.rest.1
      clear HW
      obtain ⟨wq, rfl⟩ : ∃ wq, wq = wr := ⟨_, rfl⟩
      go_wp2_with fail
      clear g16
      go_loopw [8, 68] (fun av cv wr => ∃ (c arc : Nat) (W : Kn.Wl), c ≤ n ∧ arc ≤ 1 + c * 80 ∧ cv = .int .i64 c ∧ av = .int .i64 arc ∧ Hid (WkAt B0 wr wb b mt nn mp np ab ib n (Value.slice a5 n c5) t W) ∧ Hid (New w0 wr) ∧ Hid (Kn.ringsF t ((Kn.visitsL n).drop (c * 2)) arc W = some (eR, WR))) (fun _ cv _ => n - (intOf cv).toNat)
      case atStart => exact ⟨0, 1, _, by omega, by omega, rfl, rfl, HW1, HFr, HR⟩
      case round =>
        obtain ⟨c, arc, W, hc, harc, rfl, rfl, HW, HFr, HRS⟩ := hrel
        by_cases hlt : c < n
        · go_wp2_with fail
          obtain ⟨wo, rfl⟩ : ∃ wo, wo = wr := ⟨_, rfl⟩
          go_loopw [8, 71] (fun av iv wr => ∃ (i arc : Nat) (W : Kn.Wl), i ≤ 2 ∧ arc ≤ 1 + c * 80 + i * 40 ∧ iv = .int .i64 i ∧ av = .int .i64 arc ∧ Hid (WkAt B0 wr wb b mt nn mp np ab ib n (Value.slice a5 n c5) t W) ∧ Hid (New w0 wr) ∧ Hid (Kn.ringsF t ((Kn.visitsL n).drop (c * 2 + i)) arc W = some (eR, WR))) (fun _ iv _ => 2 - (intOf iv).toNat)
          case atStart => exact ⟨0, arc, W, by omega, by omega, rfl, rfl, HW, HFr, HRS⟩
          case round =>
            obtain ⟨i, arc', W', hi2, harc', rfl, rfl, HWi, HFi, HRi⟩ := hrel
            by_cases hlt2 : i < 2
            · have hrs := HRi.out
              rw [visits_drop hlt hlt2] at hrs
              have hst := rings_step hrs
              obtain ⟨x, HX⟩ : ∃ z, Hid (z = W'.inn.getD (c * 2 + i) 0) := ⟨_, Lib.hid rfl⟩
              have hcl := HWi.out.inn.cell (i := c * 2 + i) (by omega)
              simp only [innF] at hcl
              rw [← HX.out] at hcl hst
              obtain ⟨z0, z1, z2, z3⟩ := four_c HWi.out.blk
              have j1 : (0 : Int) ≤ (c : Int) := by omega
              have j2 : (c : Int) < (n : Int) := by omega
              have j3 : (0 : Int) ≤ (i : Int) := by omega
              have j4 : (i : Int) < 2 := by omega
              clear hrs
              rcases hst with ⟨hneg, e, W2, hrg, hrs⟩ | ⟨hneg, hrs⟩
              · have CC := Lib.hid (ring_any B0 wb b mt nn mp np ab ib n c i arc' (arc' + (2 * n + 1)) (Value.slice a5 n c5) t W' wr HWi.out HV.out (by omega) h16 (e, W2) hrg (Nat.le_refl _) (by omega))
                have HRS2 := Lib.hid hrs
                clear hrg hrs
                go_wp2_with fail
                refine CC.out.mono ?_
                rintro e5 w5 ⟨rfl, hW5, he, hF5⟩
                have HW5 := Lib.hid hW5
                have HF5 := Lib.hid hF5
                have he' : e ≤ arc' + (2 * n + 1) := he
                clear hW5 he hF5 z0 z1 z2 z3 hcl
                go_wp2
                go_roundw
                case rel => exact ⟨i + 1, e, W2, by omega, by omega, by go_num, rfl, HW5, Lib.hid (HFi.out.next HF5.out fun k hk => .inr (hk.elim (fun e => by rw [e]; exact HSZ.out.2.2.1) fun e => by rw [e]; exact HSZ.out.2.2.2)), HRS2⟩
                case measure => simp [intOf]; omega
              · have HRS2 := Lib.hid hrs
                clear hrs
                go_wp2
                go_roundw
                case rel => exact ⟨i + 1, arc', W', by omega, by omega, by go_num, rfl, HWi, HFi, HRS2⟩
                case measure => simp [intOf]; omega
            · obtain rfl : 2 = i := by omega
              go_wp2
              go_roundw
              case rel => exact ⟨c + 1, arc', W', by omega, by omega, by go_num, rfl, HWi, HFi, Lib.hid (by rw [show (c + 1) * 2 = c * 2 + 2 by omega]; exact HRi.out)⟩
              case measure => simp [intOf]; omega
        · obtain rfl : n = c := by omega
          have hW : W = WR := by
            have h1 := HRS.out
            rw [visits_end, Kn.ringsF] at h1
            cases h1; rfl
          subst hW
          have HOLD : Hid (∀ k, (Value.slice a5 n c5).ownBlock = some k → k < w.heap.size) := Lib.hid (by
            intro k hk
            obtain ⟨o, ho, _⟩ := own_cells H.out.own k hk
            exact (Array.getElem?_eq_some_iff.1 ho).1)
          have g16 := HW.out.tg.rest.1
          have g18 := HW.out.tg.rest.2.2
          go_upto_region 24 with fail
          obtain ⟨u1, HU1⟩ : ∃ z, Hid (z = wr.alloc (.cells #[.slice none 0 0, .int .i64 (t.loops : Nat)] 29)) := ⟨_, Lib.hid rfl⟩
          obtain ⟨db, HDB⟩ : ∃ z, Hid (z = wr.heap.size) := ⟨_, Lib.hid rfl⟩
          have HI0 : Hid (DgI w w0 u1 B0 wb b mt nn mp np ab ib n db (Value.slice a5 n c5) t W (.slice none 0 0) []) := Lib.hid (by
            have hN : New wr u1 := by rw [HU1.out]; exact (Fr.refl _ _).alloc _
            exact ⟨HW.out.new hN, by rw [HU1.out, HDB.out]; exact heap_alloc_new wr _, World.ownsRow_nil _ _ _ _, HFr.out.trans hN, by rw [HDB.out]; exact HFr.out.size, HOLD.out⟩)
          rw [← HU1.out, ← HDB.out]
          clear g16 g18 HU1 HDB
          have g16 := HI0.out.wk.tg.rest.1
          go_wp2_with fail
          clear g16
          obtain ⟨i0, hi, hz0, hz1, hz2⟩ := info_parts Try.info81
          have hsz0 : w.heap.size ≤ w0.heap.size := HN0.out.size
          go_loopw [101] (fun cv wr => ∃ (c : Nat) (sv : Value), c ≤ n ∧ cv = .int .i64 c ∧ Hid (DgI w w0 wr B0 wb b mt nn mp np ab ib n db (Value.slice a5 n c5) t W sv ((List.range c).map (Kn.crossF W)))) (fun cv _ => n - (intOf cv).toNat)
          case atStart => exact ⟨0, _, by omega, rfl, HI0⟩
          case round =>
            obtain ⟨c, sv, hc, rfl, HI⟩ := hrel
            by_cases hlt : c < n
            · have hsz1 : w0.heap.size ≤ wr.heap.size := HI.out.new.size
              obtain ⟨z0, z1, z2, z3⟩ := four_c HI.out.wk.blk
              have hcell : ∀ i, i < 4 → wr.cell? ⟨ab, c * 4 + i, none⟩ = some (.int .i64 (W.arcs.getD (c * 4 + i) 0 : Nat)) := fun i hi => by
                have h1 := HI.out.wk.arcs.cell (i := c * 4 + i) (by omega)
                simpa only [numFn] using h1
              have a0 := hcell 0 (by omega)
              have a1 := hcell 1 (by omega)
              have a2 := hcell 2 (by omega)
              have a3 := hcell 3 (by omega)
              rw [Nat.add_zero] at a0
              have i1 : (0 : Int) ≤ (c : Int) := by omega
              have i2 : (c : Int) < (n : Int) := by omega
              obtain ⟨b0, HA0⟩ : ∃ z, Hid (z = W.arcs.getD (c * 4) 0) := ⟨_, Lib.hid rfl⟩
              obtain ⟨b1, HA1⟩ : ∃ z, Hid (z = W.arcs.getD (c * 4 + 1) 0) := ⟨_, Lib.hid rfl⟩
              obtain ⟨b2, HA2⟩ : ∃ z, Hid (z = W.arcs.getD (c * 4 + 2) 0) := ⟨_, Lib.hid rfl⟩
              obtain ⟨b3, HA3⟩ : ∃ z, Hid (z = W.arcs.getD (c * 4 + 3) 0) := ⟨_, Lib.hid rfl⟩
              rw [← HA0.out] at a0
              rw [← HA1.out] at a1
              rw [← HA2.out] at a2
              rw [← HA3.out] at a3
              clear hcell
              go_upto_region 28 with fail
              obtain ⟨v1, HV1⟩ : ∃ z, Hid (z = wr.alloc (.cells #[.int .i64 (b0 : Nat), .int .i64 (b1 : Nat), .int .i64 (b2 : Nat), .int .i64 (b3 : Nat)] 71)) := ⟨_, Lib.hid rfl⟩
              obtain ⟨ka, HKA⟩ : ∃ z, Hid (z = wr.heap.size) := ⟨_, Lib.hid rfl⟩
              have HNV1 : Hid (New wr v1) := Lib.hid (by rw [HV1.out]; exact (Fr.refl _ _).alloc _)
              have hka : v1.heap[ka]? = some (.cells #[.int .i64 (b0 : Nat), .int .i64 (b1 : Nat), .int .i64 (b2 : Nat), .int .i64 (b3 : Nat)] 71 (0, 0)) := by rw [HV1.out, HKA.out]; exact heap_alloc_new wr _
              rw [← HV1.out, ← HKA.out]
              clear a0 a1 a2 a3 z0 z1 z2 z3 HV1 HKA
              obtain ⟨a0, a1, a2, a3⟩ := four_c hka
              go_upto_region 29 with fail
              obtain ⟨v2, HV2⟩ : ∃ z, Hid (z = v1.alloc (.cells #[.int .i64 (b0 : Nat), .int .i64 (b1 : Nat), .int .i64 (b2 : Nat), .int .i64 (b3 : Nat), .bool false] 81)) := ⟨_, Lib.hid rfl⟩
              obtain ⟨kb, HKB⟩ : ∃ z, Hid (z = v1.heap.size) := ⟨_, Lib.hid rfl⟩
              have HNV2 : Hid (New wr v2) := Lib.hid (by rw [HV2.out]; exact HNV1.out.alloc _)
              have HB2 : Hid (v2.heap[kb]? = some (.cells #[.int .i64 (b0 : Nat), .int .i64 (b1 : Nat), .int .i64 (b2 : Nat), .int .i64 (b3 : Nat), .bool false] 81 (0, 0))) := Lib.hid (by rw [HV2.out, HKB.out]; exact heap_alloc_new v1 _)
              have HKS : Hid (wr.heap.size ≤ kb) := Lib.hid (by rw [HKB.out]; exact HNV1.out.size)
              rw [← HV2.out, ← HKB.out]
              clear a0 a1 a2 a3 HV2 HKB hka
              obtain ⟨x0, HX0⟩ : ∃ z, Hid (z = W.inn.getD (c * 2) 0) := ⟨_, Lib.hid rfl⟩
              obtain ⟨x1, HX1⟩ : ∃ z, Hid (z = W.inn.getD (c * 2 + 1) 0) := ⟨_, Lib.hid rfl⟩
              have hin : ∀ j, j < 2 * n → 0 ≤ W.inn.getD j 0 ∧ W.inn.getD j 0 < 4 := fun j hj => by
                have hl := HI.out.wk.li
                rw [List.getD_eq_getElem?_getD, List.getElem?_eq_getElem (by omega)]
                exact HIN.out _ (List.getElem_mem _)
              have hx0 := hin (c * 2) (by omega)
              have hx1 := hin (c * 2 + 1) (by omega)
              rw [← HX0.out] at hx0
              rw [← HX1.out] at hx1
              clear hin
              obtain ⟨i, rfl⟩ : ∃ i : Nat, x0 = (i : Nat) := ⟨x0.toNat, by omega⟩
              have hi4 : i < 4 := by omega
              obtain ⟨qa, qb, qc, qd, HT⟩ : ∃ qa qb qc qd, Hid (Kn.turnC ⟨b0, b1, b2, b3, false⟩ i = ⟨qa, qb, qc, qd, false⟩) := ⟨_, _, _, _, Lib.hid rfl⟩
              have CT : ∀ z, Calls Try.prog 27 #[.agg #[.int .i64 (b0 : Nat), .int .i64 (b1 : Nat), .int .i64 (b2 : Nat), .int .i64 (b3 : Nat), .bool false], .int .i64 (i : Nat)] z (fun e w' => e = .returned (.agg #[.int .i64 qa, .int .i64 qb, .int .i64 qc, .int .i64 qd, .bool false]) ∧ New z w') := fun z => by
                have h1 := turned_any b0 b1 b2 b3 false i z hi4
                rw [HT.out] at h1
                exact h1
              have HCT := Lib.hid CT
              clear CT
              have hww : ∀ z, New wr z → z.cell? ⟨wb, 3, none⟩ = some (.slice (some ⟨ib, 0, none⟩) n n) ∧ z.cell? ⟨ib, c * 2, none⟩ = some (.int .i64 (i : Nat)) ∧ z.cell? ⟨ib, c * 2 + 1, none⟩ = some (.int .i64 x1) := fun z hz => by
                have h1 := (HI.out.nw hz).wk
                have e0 := h1.inn.cell (i := c * 2) (by omega)
                have e1 := h1.inn.cell (i := c * 2 + 1) (by omega)
                simp only [innF] at e0 e1
                rw [← HX0.out] at e0
                rw [← HX1.out] at e1
                exact ⟨(four_c h1.blk).2.2.2, e0, e1⟩
              have HWW := Lib.hid hww
              have hS := And.intro (HWW.out _ HNV2.out.drew).1 (HWW.out _ HNV2.out.drew).2.1
              clear hww
              refine wp_region_held_drew (S := fun wz => wz.cell? ⟨wb, 3, none⟩ = some (.slice (some ⟨ib, 0, none⟩) n n) ∧ wz.cell? ⟨ib, c * 2, none⟩ = some (.int .i64 (i : Nat))) (by kernel_rfl) hS (fun hHeld => ?_)
              obtain ⟨v3, HV3⟩ : ∃ z, Hid (z = v2.drew) := ⟨_, Lib.hid rfl⟩
              have HNV3 : Hid (New wr v3) := Lib.hid (by rw [HV3.out]; exact HNV2.out.drew)
              have HB3 : Hid (v3.heap[kb]? = some (.cells #[.int .i64 (b0 : Nat), .int .i64 (b1 : Nat), .int .i64 (b2 : Nat), .int .i64 (b3 : Nat), .bool false] 81 (0, 0))) := Lib.hid (by rw [HV3.out]; exact HB2.out)
              rw [← HV3.out] at hHeld ⊢
              clear hS HV3
              refine' tkO (i := 1) ?_
              (try simp only [Act.put, lq1, lq2, lq3, lq4, lq5, lq6])
              refine' tkO (i := 2) ?_
              (try simp only [Act.put, lq1, lq2, lq3, lq4, lq5, lq6])
              refine' tkO (i := 3) ?_
              (try simp only [Act.put, lq1, lq2, lq3, lq4, lq5, lq6])
              refine' tkO (i := 4) ?_
              (try simp only [Act.put, lq1, lq2, lq3, lq4, lq5, lq6])
              refine' tkO (i := 5) ?_
              (try simp only [Act.put, lq1, lq2, lq3, lq4, lq5, lq6])
              refine' tkO (i := 6) ?_
              (try simp only [Act.put, lq1, lq2, lq3, lq4, lq5, lq6])
              refine' tkO (i := 7) ?_
              (try simp only [Act.put, lq1, lq2, lq3, lq4, lq5, lq6])
              refine' tkO (i := 8) ?_
              (try simp only [Act.put, lq1, lq2, lq3, lq4, lq5, lq6])
              refine rdO (i := 0) (fun K hK => ?_)
              (try simp only [lq1, lq2, lq3])
              obtain ⟨q1, q2, q3, q4, q5⟩ := five_c HB3.out
              go_simp
              clear q1 q2 q3 q4 q5
              refine hK.out _ _ ⟨(HWW.out _ HNV3.out).1, (HWW.out _ HNV3.out).2.1⟩ (fun hHeld => ?_)
              clear hK K
              (try simp only [Act.put, lq1, lq2, lq3, lq4, lq5, lq6])
              refine rdO (i := 9) (fun K hK => ?_)
              (try simp only [lq1, lq2, lq3])
              go_simp
              refine (HCT.out v3).mono ?_
              rintro e v4 ⟨rfl, hF⟩
              have HNV4 : Hid (New wr v4) := Lib.hid (HNV3.out.trans hF)
              have HB4 := Lib.hid (hF.blk HB3.out fun x => x)
              clear hF
              go_wp2_with fail
              refine hK.out _ _ ⟨(HWW.out _ HNV4.out).1, (HWW.out _ HNV4.out).2.1⟩ (fun hHeld => ?_)
              clear hK K
              (try simp only [Act.put, lq1, lq2, lq3, lq4, lq5, lq6])
              refine rdO (i := 10) (fun K hK => ?_)
              (try simp only [lq1, lq2, lq3])
              obtain ⟨q1, q2, q3, q4, q5, q6, q7, q8, q9, q10⟩ := box5_c HB4.out
              go_simp
              clear q1 q2 q3 q4 q5 q6 q7 q8 q9 q10
              obtain ⟨v5, HV5⟩ : ∃ z, Hid (z = ((((v4.setCell ⟨kb, 0, none⟩ (.int .i64 qa)).setCell ⟨kb, 1, none⟩ (.int .i64 qb)).setCell ⟨kb, 2, none⟩ (.int .i64 qc)).setCell ⟨kb, 3, none⟩ (.int .i64 qd)).setCell ⟨kb, 4, none⟩ (.bool false)) := ⟨_, Lib.hid rfl⟩
              have HB5 : Hid (v5.heap[kb]? = some (.cells #[.int .i64 qa, .int .i64 qb, .int .i64 qc, .int .i64 qd, .bool false] 81 (0, 0))) := Lib.hid (by rw [HV5.out]; exact box5_set HB4.out _ _ _ _ _)
              have HNV5 : Hid (New wr v5) := Lib.hid (by rw [HV5.out]; exact HNV4.out.next (fr5 v4 kb _ _ _ _ _) fun k hk => .inr (by rw [hk]; exact HKS.out))
              rw [← HV5.out]
              clear HV5
              refine hK.out _ _ ⟨(HWW.out _ HNV5.out).1, (HWW.out _ HNV5.out).2.1⟩ (fun hHeld => ?_)
              clear hK K
              (try simp only [Act.put, lq1, lq2, lq3, lq4, lq5, lq6])
              refine wpAnyH_done (by kernel_rfl) ?_ _
              clear hHeld
              go_wp2_with fail
              have hS := HWW.out _ HNV5.out.drew
              refine wp_region_held_drew (S := fun wz => wz.cell? ⟨wb, 3, none⟩ = some (.slice (some ⟨ib, 0, none⟩) n n) ∧ wz.cell? ⟨ib, c * 2, none⟩ = some (.int .i64 (i : Nat)) ∧ wz.cell? ⟨ib, c * 2 + 1, none⟩ = some (.int .i64 x1)) (by kernel_rfl) hS (fun hHeld => ?_)
              obtain ⟨v6, HV6⟩ : ∃ z, Hid (z = v5.drew) := ⟨_, Lib.hid rfl⟩
              have HNV6 : Hid (New wr v6) := Lib.hid (by rw [HV6.out]; exact HNV5.out.drew)
              have HB6 : Hid (v6.heap[kb]? = some (.cells #[.int .i64 qa, .int .i64 qb, .int .i64 qc, .int .i64 qd, .bool false] 81 (0, 0))) := Lib.hid (by rw [HV6.out]; exact HB5.out)
              rw [← HV6.out] at hHeld ⊢
              clear hS HV6
              refine' tkO (i := 0) ?_
              (try simp only [Act.put, lq1, lq2, lq3, lq4, lq5, lq6])
              refine' tkO (i := 1) ?_
              (try simp only [Act.put, lq1, lq2, lq3, lq4, lq5, lq6])
              refine' tkO (i := 2) ?_
              (try simp only [Act.put, lq1, lq2, lq3, lq4, lq5, lq6])
              refine' tkO (i := 3) ?_
              (try simp only [Act.put, lq1, lq2, lq3, lq4, lq5, lq6])
              refine' tkO (i := 4) ?_
              (try simp only [Act.put, lq1, lq2, lq3, lq4, lq5, lq6])
              refine' tkO (i := 5) ?_
              (try simp only [Act.put, lq1, lq2, lq3, lq4, lq5, lq6])
              refine' tkO (i := 6) ?_
              (try simp only [Act.put, lq1, lq2, lq3, lq4, lq5, lq6])
              refine' tkO (i := 7) ?_
              (try simp only [Act.put, lq1, lq2, lq3, lq4, lq5, lq6])
              refine' tkO (i := 8) ?_
              (try simp only [Act.put, lq1, lq2, lq3, lq4, lq5, lq6])
              refine' tkO (i := 9) ?_
              (try simp only [Act.put, lq1, lq2, lq3, lq4, lq5, lq6])
              refine' tkO (i := 10) ?_
              (try simp only [Act.put, lq1, lq2, lq3, lq4, lq5, lq6])
              refine' tkO (i := 11) ?_
              (try simp only [Act.put, lq1, lq2, lq3, lq4, lq5, lq6])
              refine' tkO (i := 12) ?_
              (try simp only [Act.put, lq1, lq2, lq3, lq4, lq5, lq6])
              refine' tkO (i := 13) ?_
              (try simp only [Act.put, lq1, lq2, lq3, lq4, lq5, lq6])
              refine' tkO (i := 14) ?_
              (try simp only [Act.put, lq1, lq2, lq3, lq4, lq5, lq6])
              refine' tkO (i := 15) ?_
              (try simp only [Act.put, lq1, lq2, lq3, lq4, lq5, lq6])
              refine' tkO (i := 16) ?_
              (try simp only [Act.put, lq1, lq2, lq3, lq4, lq5, lq6])
              refine' tkO (i := 17) ?_
              (try simp only [Act.put, lq1, lq2, lq3, lq4, lq5, lq6])
              refine' tkO (i := 18) ?_
              (try simp only [Act.put, lq1, lq2, lq3, lq4, lq5, lq6])
              refine' tkO (i := 19) ?_
              (try simp only [Act.put, lq1, lq2, lq3, lq4, lq5, lq6])
              refine' tkO (i := 20) ?_
              (try simp only [Act.put, lq1, lq2, lq3, lq4, lq5, lq6])
              refine rdO (i := 21) (fun K hK => ?_)
              (try simp only [lq1, lq2, lq3])
              obtain ⟨q1, q2, q3, q4, q5, q6, q7, q8, q9, q10⟩ := box5_c HB6.out
              go_simp
              clear q1 q2 q3 q4 q5 q6 q7 q8 q9 q10
              obtain ⟨p, HP⟩ : ∃ p, Hid (p = ((IntKind.i64.wrap (IntKind.i64.wrap (x1 - (i : Nat)) + 4)).tmod 4 == 3)) := ⟨_, Lib.hid rfl⟩
              rw [← HP.out]
              have hp : p = decide ((x1 - (i : Nat) + 4) % 4 = 3) := by
                rw [HP.out]
                have e1 : IntKind.i64.wrap (IntKind.i64.wrap (x1 - (i : Nat)) + 4) = x1 - (i : Nat) + 4 := by rw [IntWalk.i64_in (x1 - (i : Nat)) (by omega), IntWalk.i64_in _ (by omega)]
                rw [e1, Int.tmod_eq_emod_of_nonneg (by omega)]
                by_cases h3 : (x1 - (i : Nat) + 4) % 4 = 3
                · rw [h3]; rfl
                · rw [decide_eq_false h3]; exact beq_false_of_ne h3
              obtain ⟨v7, HV7⟩ : ∃ z, Hid (z = v6.setCell ⟨kb, 4, none⟩ (.bool p)) := ⟨_, Lib.hid rfl⟩
              have HB7 : Hid (v7.heap[kb]? = some (.cells #[.int .i64 qa, .int .i64 qb, .int .i64 qc, .int .i64 qd, .bool p] 81 (0, 0))) := Lib.hid (by rw [HV7.out]; exact box5_set4 HB6.out _)
              have HNV7 : Hid (New wr v7) := Lib.hid (by rw [HV7.out]; exact HNV6.out.setCell (a := ⟨kb, 4, none⟩) (.inr HKS.out) _)
              rw [← HV7.out]
              have HCR : Hid (Kn.crossF W c = ⟨qa, qb, qc, qd, p⟩) := Lib.hid (crossF_eq HX0.out.symm HA0.out HA1.out HA2.out HA3.out HT.out (by rw [← HX0.out, ← HX1.out]; exact hp))
              clear HV7 hp
              refine hK.out _ _ (HWW.out _ HNV7.out) (fun hHeld => ?_)
              clear hK K
              (try simp only [Act.put, lq1, lq2, lq3, lq4, lq5, lq6])
              refine wpAnyH_done (by kernel_rfl) ?_ _
              clear hHeld
              have HI7 := Lib.hid (HI.out.nw HNV7.out)
              obtain ⟨sa, sc, rfl, _⟩ := own_shape2 HI7.out.own
              obtain ⟨d0, d1⟩ := two_c HI7.out.box
              obtain ⟨q1, q2, q3, q4, q5⟩ := five_c HB7.out
              have hlen : ((List.range c).map (Kn.crossF W)).length = c := by simp
              rw [hlen] at d0
              have HI7 : Hid (DgI w w0 v7 B0 wb b mt nn mp np ab ib n db (Value.slice a5 n c5) t W (.slice sa c sc) ((List.range c).map (Kn.crossF W))) := Lib.hid (by have h := HI7.out; rw [hlen] at h; exact h)
              have hsz2 : w0.heap.size ≤ v7.heap.size := HI7.out.new.size
              have HOW := Lib.hid (show v7.ownsRow w0.heap.size 81 5 (.slice sa c sc) c (crCells ((List.range c).map (Kn.crossF W))) by
                have h1 := HI7.out.own
                rw [hlen] at h1
                exact h1)
              go_wp2_with (first
                | (at_builtin; go_loud (refine wpList_append_own _ rfl _ _ 27 rfl w0.heap.size 81 i0 _ 5 40 Try.underlying27 hi hz0 hz1 hz2 rfl (by decide) _ c (crCells ((List.range c).map (Kn.crossF W))) rfl (World.ownsRow.alloc HOW.out _) ⟨v7.heap.size, 0, none⟩ 1 1 [.int .i64 qa, .int .i64 qb, .int .i64 qc, .int .i64 qd, .bool p] rfl rfl (five_cells rfl) (one_five _ _ _ _ _) (by unfold maxLen; omega) (by omega) (by rw [World.size_alloc]; omega) ?_); (intro v' w7 hown hgrow _); (go_loud (obtain ⟨a9, c9, rfl, _⟩ := own_shape2 hown)); (go_loud (have hgrow : (v7.alloc (.cells #[.int .i64 qa, .int .i64 qb, .int .i64 qc, .int .i64 qd, .bool p] 81)).grownBy w7 (Value.slice sa c sc).ownBlock := hgrow)); (go_loud (obtain ⟨hb7, hI8⟩ := HI7.out.app (x := ⟨qa, qb, qc, qd, p⟩) hsz0 (by first | exact hown | (rw [hlen]; exact hown)) hgrow)); (go_loud (obtain ⟨g0, g1⟩ := two_c hb7)); (go_loud (have g2 : w7.frozen? ⟨db, 0, none⟩ = false := by simp [World.frozen?, hb7])); (go_loud (have HI8 := Lib.hid hI8)); (clear hown hgrow hb7 hI8))
                | go_in)
              go_roundw
              case rel =>
                refine ⟨c + 1, Value.slice a9 (c + 1) c9, by omega, by go_num, Lib.hid ?_⟩
                have h1 := HI8.out
                rw [← HCR.out] at h1
                rw [List.range_succ, List.map_append]
                exact h1
              case measure => simp [intOf]; omega
            · obtain rfl : n = c := by omega
              obtain ⟨sa, sc, rfl, _⟩ := own_shape2 HI.out.own
              have hlen9 : ((List.range n).map (Kn.crossF W)).length = n := by simp
              have HI : Hid (DgI w w0 wr B0 wb b mt nn mp np ab ib n db (Value.slice a5 n c5) t W (.slice sa n sc) ((List.range n).map (Kn.crossF W))) := Lib.hid (by have h := HI.out; rw [hlen9] at h; exact h)
              obtain ⟨d0, d1⟩ := two_c HI.out.box
              obtain ⟨r0, r1⟩ := two_c (HI.out.new.blk HRB0.out fun x => x)
              have hb7 := HI.out.new.blk HRB0.out fun x => x
              have f0 : wr.frozen? ⟨rb, 0, none⟩ = false := by simp [World.frozen?, hb7]
              have f1 : wr.frozen? ⟨rb, 1, none⟩ = false := by simp [World.frozen?, hb7]
              clear hb7
              go_wp2_with fail
              have HF9 : Hid (Fr (fun k => k = rb) wr ((wr.setCell ⟨rb, 0, none⟩ (Value.slice sa n sc)).setCell ⟨rb, 1, none⟩ (.int .i64 (t.loops : Nat)))) := Lib.hid (((Fr.refl (fun k => k = rb) wr).setCell (a := ⟨rb, 0, none⟩) (.inl rfl) _).setCell (a := ⟨rb, 1, none⟩) (.inl rfl) _)
              have hb9 := (HI.out.new.blk HRB0.out fun x => x)
              have hb9' : ((wr.setCell ⟨rb, 0, none⟩ (Value.slice sa n sc)).setCell ⟨rb, 1, none⟩ (.int .i64 (t.loops : Nat))).heap[rb]? = some (.cells #[Value.slice sa n sc, .int .i64 (t.loops : Nat)] 29 (0, 0)) := (box2_set (box2_set hb9 _).1 _).2
              obtain ⟨e0, e1⟩ := two_c hb9'
              have hrbS : w.heap.size ≤ rb := by rw [HRB.out]; exact Nat.le_refl _
              have ho := HI.out.own
              rw [hlen9] at ho
              refine bodyPost_ret (v := .agg #[Value.slice sa n sc, .int .i64 (t.loops : Nat)]) (by simp [results, Try.results17, go_sem, e0, e1]) rfl ⟨_, rfl, ?_, ?_⟩
              · rw [HXW.out]
                rw [show ((List.range n).map (Kn.crossF W)).length = n by simp]
                exact HF9.out.owns (own_base ho hsz0) fun k hk e => blk_not_own hb9 ho (by decide) (by rw [hk, e])
              · exact (HN0.out.trans HI.out.new).next HF9.out fun k hk => .inr (by rw [hk]; exact hrbS)
end Go.Proofs.Ytcfpdeeipbekfaa
