/- Walks: Link of a list. -/
import Derived.Test.YtcfpdeeipbekfaaU2
namespace Go.Proofs.Ytcfpdeeipbekfaa
open Go.RowKit

set_option maxRecDepth 100000 in
set_option maxHeartbeats 4000000 in
theorem linkI_any (a : Option Addr) (n c : Nat) (l : List Int) (w : World) (hn : n = l.length) (hx : IntsAt w a l) (hl : n % 2 = 1) (hl' : n ≤ 1000) (hs : Kn.absL l ≤ 15) (X : List Kn.Cr) (L : Nat) (hX : (Kn.closeT (Kn.linkI l 0 Kn.Tg.first)).diagramC = some (X, L)) :
    Calls Try.prog 6 #[.slice a n c] w fun e w' => ∃ sv, e = .returned (.tuple #[.agg #[sv, .int .i64 (L : Nat)], .int .i64 0]) ∧ w'.ownsRow w.heap.size 81 5 sv X.length (crCells X) ∧ New w w' := by
  obtain ⟨T, hT⟩ : ∃ T, Kn.linkI l 0 Kn.Tg.first = T := ⟨_, rfl⟩
  obtain ⟨j0, j1, j3⟩ := Kn.link_conds l
  rw [hT] at j0 j1 j3 hX
  have H := Lib.hid hx
  have HN := Lib.hid hn
  have HT := Lib.hid hT
  have HJ0 := Lib.hid j0
  have HJ1 := Lib.hid j1
  have HJ3 := Lib.hid j3
  have HD := Lib.hid hX
  have HLL := Lib.hid hl
  have HS := Lib.hid hs
  clear hx hn hs hT j0 j1 j3 hX hl
  go_enter Try.func6, Try.ntmps6
  go_wp2_with fail
  obtain ⟨w0, HW0⟩ : ∃ z, Hid (z = w.alloc (.cells #[.slice none 0 0, .int .i64 0] 29)) := ⟨_, Lib.hid rfl⟩
  obtain ⟨rb, HRB⟩ : ∃ z, Hid (z = w.heap.size) := ⟨_, Lib.hid rfl⟩
  have HN0 : Hid (New w w0) := Lib.hid (by rw [HW0.out]; exact (Fr.refl _ _).alloc _)
  have HRB0 : Hid (w0.heap[rb]? = some (.cells #[.slice none 0 0, .int .i64 0] 29 (0, 0))) := Lib.hid (by rw [HW0.out, HRB.out]; exact heap_alloc_new w _)
  rw [← HW0.out, ← HRB.out]
  have HO0 := Lib.hid (New.ints HN0.out H.out)
  refine (checkI_any a n c l w0 HN.out HO0.out HLL.out hl' (Nat.le_trans HS.out (by omega))).mono ?_
  rintro e w1 ⟨rfl, rfl⟩
  go_wp2_with fail
  refine (first_any w1).mono ?_
  rintro e w2 ⟨b, mt, rfl, hTg, hN2⟩
  have HTG := Lib.hid hTg
  have HN2 := Lib.hid hN2
  clear hTg hN2
  go_wp2_with fail
  go_loopw [17] (fun cv wr => ∃ (k : Nat) (v : Value) (t : Kn.Tg), k ≤ n ∧ cv = .int .i64 k ∧ Hid (TgAt w1.heap.size wr b mt (4 * Kn.absL (l.take k)) v t ∧ EnsOk t ∧ t.many = Kn.absL (l.take k)) ∧ Hid (Kn.linkI (l.drop k) k t = T) ∧ Hid (New w1 wr)) (fun cv _ => n - (intOf cv).toNat)
  case atStart => exact ⟨0, _, _, by omega, rfl, Lib.hid ⟨HTG.out, first_ok, rfl⟩, HT, HN2⟩
  case round =>
    obtain ⟨k, v, t, hk, rfl, HTk, HLk, HFk⟩ := hrel
    by_cases hlt : k < n
    · have hkl : k < l.length := by have := HN.out; omega
      have HOk := Lib.hid (New.ints HFk.out HO0.out)
      obtain ⟨ba, bo, e, hc⟩ := HOk.out.at hkl
      cases e
      have h1 := Kn.absL_take hkl
      have h2 := Kn.absL_take_le l (k + 1)
      have h4 := HS.out
      have hd := HLk.out
      rw [List.drop_eq_getElem_cons hkl, Kn.linkI] at hd
      obtain ⟨z, HZ⟩ : ∃ z, Hid (z = l.getD k 0) := ⟨_, Lib.hid rfl⟩
      obtain ⟨y, HY⟩ : ∃ y, Hid (y = Kn.absL (l.take k)) := ⟨_, Lib.hid rfl⟩
      have hgx : l[k] = z := by rw [HZ.out, List.getD_eq_getElem?_getD, List.getElem?_eq_getElem hkl]; rfl
      rw [hgx] at hd
      rw [← HZ.out] at hc h1
      obtain ⟨x, HX⟩ : ∃ x, Hid (x = z.natAbs) := ⟨_, Lib.hid rfl⟩
      obtain ⟨s, HSG⟩ : ∃ s, Hid (s = decide (0 < z)) := ⟨_, Lib.hid rfl⟩
      rw [← HX.out, ← HSG.out] at hd
      have HDk := Lib.hid hd
      rw [← HX.out] at h1
      rw [← HY.out] at h1
      have H1 := Lib.hid h1
      have x1 : x + y ≤ 15 := by omega
      have x0 : (0 : Int) ≤ (x : Int) := by omega
      have x2 : (x : Int) ≤ 15 := by omega
      have z1 : -15 ≤ z := by have := HX.out; omega
      have z2 : z ≤ 15 := by have := HX.out; omega
      have hmx : max z (-z) = (x : Int) := by have := HX.out; omega
      clear h1 h2 h4 hd hgx
      have i1 : (0 : Int) ≤ (k : Int) := by omega
      have i2 : (k : Int) < (n : Int) := by omega
      have HTk : Hid (TgAt w1.heap.size wr b mt (4 * y) v t ∧ EnsOk t ∧ t.many = y) := Lib.hid (by rw [HY.out]; exact HTk.out)
      go_wp2_with fail
      try rw [hmx]
      clear hmx
      obtain ⟨wo, rfl⟩ : ∃ wo, wo = wr := ⟨_, rfl⟩
      go_loopw [26] (fun jv wr => ∃ (j : Nat) (v : Value), j ≤ x ∧ jv = .int .i64 j ∧ Hid (TgAt w1.heap.size wr b mt (4 * y + 4 * j) v (Kn.twI (k % 2 == 1) s t j) ∧ EnsOk (Kn.twI (k % 2 == 1) s t j) ∧ (Kn.twI (k % 2 == 1) s t j).many = y + j) ∧ Hid (New w1 wr)) (fun jv _ => x - (intOf jv).toNat)
      case atStart => exact ⟨0, v, by omega, rfl, HTk, HFk⟩
      case round =>
        obtain ⟨j, v, hj, rfl, HTj, HFj⟩ := hrel
        by_cases hltj : j < x
        · have e1 : ((k : Int) % 2 == 1) = (k % 2 == 1) := by rw [Bool.eq_iff_iff, beq_iff_eq, beq_iff_eq]; omega
          have e2 : decide (0 < z) = s := HSG.out.symm
          go_wp2_with fail
          refine (twist_any w1.heap.size b mt (4 * y + 4 * j) v _ _ _ wr HTj.out.1 (by omega) HTj.out.2.1 (by rw [HTj.out.2.2]; omega)).mono ?_
          rintro e w5 ⟨rfl, ⟨v5, hT5⟩, hF5⟩
          have HT5 := Lib.hid hT5
          have HF5 := Lib.hid hF5
          clear hT5 hF5 e1 e2
          have hok := twist_ok HTj.out.2.1 HTj.out.1.len HTj.out.1.plen (by rw [HTj.out.2.2]; omega) (k % 2 == 1) s
          have HOK := Lib.hid hok
          clear hok
          go_wp2
          go_roundw
          case rel => exact ⟨j + 1, v5, by omega, by go_num, Lib.hid ⟨HT5.out, HOK.out.1, by have := HOK.out.2; rw [HTj.out.2.2] at this; exact this⟩, Lib.hid (HFj.out.next HF5.out fun i hi => .inr hi)⟩
          case measure => simp [intOf]; omega
        · obtain rfl : x = j := by omega
          go_wp2
          go_roundw
          case rel => exact ⟨k + 1, v, _, by omega, by go_num, Lib.hid (by rw [H1.out, Nat.mul_add]; exact HTj.out), HDk, HFj⟩
          case measure => simp [intOf]; omega
    · obtain rfl : n = k := by omega
      have hlen := HN.out
      have htk : Kn.absL (l.take n) = Kn.absL l := by rw [List.take_of_length_le (by omega)]
      have htT : t = T := by
        have h1 := HLk.out
        rw [List.drop_eq_nil_of_le (by omega), Kn.linkI] at h1
        exact h1
      subst htT
      have HTk : Hid (TgAt w1.heap.size wr b mt (4 * Kn.absL l) v t ∧ EnsOk t ∧ t.many = Kn.absL l) := Lib.hid (by rw [← htk]; exact HTk.out)
      obtain ⟨S, HSS⟩ : ∃ z, Hid (z = Kn.absL l) := ⟨_, Lib.hid rfl⟩
      rw [← HSS.out] at HTk
      have hS15 : S ≤ 15 := by rw [HSS.out]; exact HS.out
      have hL1 := Kn.join_loops HJ0.out
      have hL2 := Kn.join_loops HJ1.out
      have hL0 := HJ3.out
      have CC := Lib.hid (joinB_any w1.heap.size b mt (4 * S) 0 1 v t wr HTk.out.1 (by omega) (by omega) HTk.out.2.1 (by omega) (by omega) HJ0.out)
      have HK1 := Lib.hid (joinB_ok HTk.out.2.1 HTk.out.1.len (a := 0) (b := 1) (by omega) (by omega) HJ0.out)
      have HL := Lib.hid (And.intro hL1 (And.intro hL2 hL0))
      clear hlen htk HLk hL1 hL2 hL0
      go_wp2_with fail
      refine CC.out.mono ?_
      rintro e w5 ⟨rfl, hT5, hF5⟩
      have HT5 := Lib.hid hT5
      have HF5 := Lib.hid (HFk.out.next hF5 fun i hi => .inr hi)
      clear hT5 hF5 CC
      have CC := Lib.hid (joinB_any w1.heap.size b mt (4 * S + 2) 2 3 v (t.join 0 1) w5 HT5.out (by omega) (by have := HL.out.1; have := HL.out.2.2; omega) HK1.out.1 (by omega) (by omega) HJ1.out)
      have HK2 := Lib.hid (joinB_ok HK1.out.1 HT5.out.len (a := 2) (b := 3) (by omega) (by omega) HJ1.out)
      go_wp2_with fail
      refine CC.out.mono ?_
      rintro e w6 ⟨rfl, hT6, hF6⟩
      have HT6 := Lib.hid hT6
      have HF6 := Lib.hid (HF5.out.next hF6 fun i hi => .inr hi)
      clear hT6 hF6 CC
      have hmany : ((t.join 0 1).join 2 3).many = S := by rw [HK2.out.2, HK1.out.2, HTk.out.2.2]
      have CC := Lib.hid (diagram_any w1.heap.size b mt (4 * S + 2 + 2) S v ((t.join 0 1).join 2 3) w6 HT6.out hmany.symm (by omega) (by have := HL.out.1; have := HL.out.2.1; have := HL.out.2.2; omega) X L HD.out)
      go_wp2_with fail
      refine CC.out.mono ?_
      rintro e w7 ⟨sv, rfl, hO7, hF7⟩
      have HO7 := Lib.hid hO7
      have HF7 := Lib.hid (HF6.out.trans hF7)
      have hb7 := HF7.out.blk HRB0.out fun x => x
      obtain ⟨r0, r1⟩ := two_c hb7
      have f0 : w7.frozen? ⟨rb, 0, none⟩ = false := by simp [World.frozen?, hb7]
      have f1 : w7.frozen? ⟨rb, 1, none⟩ = false := by simp [World.frozen?, hb7]
      obtain ⟨sa, sc, rfl, _⟩ := own_shape2 hO7
      clear hO7 hF7 CC hb7
      go_wp2_with fail
      have HF9 : Hid (Fr (fun k => k = rb) w7 ((w7.setCell ⟨rb, 0, none⟩ (Value.slice sa X.length sc)).setCell ⟨rb, 1, none⟩ (.int .i64 (L : Nat)))) := Lib.hid (((Fr.refl (fun k => k = rb) w7).setCell (a := ⟨rb, 0, none⟩) (.inl rfl) _).setCell (a := ⟨rb, 1, none⟩) (.inl rfl) _)
      have hb9 := HF7.out.blk HRB0.out fun x => x
      obtain ⟨e0, e1⟩ := two_c (box2_set (box2_set hb9 (Value.slice sa X.length sc)).1 (.int .i64 (L : Nat))).2
      have hsz : w.heap.size ≤ w6.heap.size := Nat.le_trans HN0.out.size HF6.out.size
      refine bodyPost_ret (v := .tuple #[.agg #[Value.slice sa X.length sc, .int .i64 (L : Nat)], .int .i64 0]) (by simp [results, Try.results6, go_sem, e0, e1]) rfl ⟨_, rfl, ?_, ?_⟩
      · exact HF9.out.owns (own_base HO7.out hsz) fun k hk e => blk_not_own hb9 HO7.out (by decide) (by rw [hk, e])
      · exact (HN0.out.trans HF7.out).next HF9.out fun k hk => .inr (by rw [hk, HRB.out]; exact Nat.le_refl _)
end Go.Proofs.Ytcfpdeeipbekfaa
