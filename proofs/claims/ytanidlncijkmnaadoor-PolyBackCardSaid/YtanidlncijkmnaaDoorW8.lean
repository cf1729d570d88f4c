/- Walks: Read. -/
import Derived.Test.YtanidlncijkmnaaDoorW7
namespace Go.Proofs.YtanidlncijkmnaaDoor
open Go.RowKit

theorem sm4_at {l : List Pl.T} (h : Tx.Sm4 l) {k : Nat} (hk : k < l.length) : (-4 ≤ (l.getD k (0, 0)).1 ∧ (l.getD k (0, 0)).1 ≤ 4) ∧ (l.getD k (0, 0)).2 ≠ 0 ∧ -9 ≤ (l.getD k (0, 0)).2 ∧ (l.getD k (0, 0)).2 ≤ 9 := by
  rw [List.getD_eq_getElem?_getD, List.getElem?_eq_getElem hk]
  exact h _ (List.getElem_mem hk)
def sgn (c : Int) : Int := if c < 0 then -1 else 1
theorem sgn_mul {c : Int} : (c.natAbs : Int) * sgn c = c := by
  unfold sgn; split <;> omega
def GaveR (l : List Pl.T) (w : World) (e : Ending) (w' : World) : Prop := ∃ v, e = .returned (.tuple #[v, .int .i64 0]) ∧ Ts w' v l ∧ New w w'

theorem words_len_n {l : List Pl.T} {n : Nat} (h : (Tx.words l).length = 2 * l.length - 1) (hn : n = l.length) : (Tx.words l).length = 2 * n - 1 := by omega
theorem take_next {l : List Pl.T} {j : Nat} (h : j < l.length) : l.take (j + 1) = l.take j ++ [((l.getD j (0, 0)).1, (l.getD j (0, 0)).2)] := by
  have e : l.getD j (0, 0) = l[j] := by simp [List.getD_eq_getElem?_getD, h]
  rw [List.take_add_one, List.getElem?_eq_getElem h, e]; rfl
theorem WordsAt.at_ {w : World} {a : Nat} {ws : List (List UInt8)} (h : WordsAt w a ws) {k : Nat} (hk : k < ws.length) {u : List UInt8} (hu : ws.getD k [] = u) : ∃ x : ByteArray, w.cell? ⟨a, k, none⟩ = some (.string x) ∧ Hid (x.data.toList = u) := by
  obtain ⟨x, h1, h2⟩ := h k hk
  exact ⟨x, h1, Lib.hid (h2.trans hu)⟩

set_option maxRecDepth 100000 in
set_option maxHeartbeats 4000000 in
theorem Read_any (b : ByteArray) (l : List Pl.T) (w : World) (hb : b.data.toList = Tx.full l) (hs : Tx.Sm4 l) (hm : Pl.May l) (hl : l.length ≤ 9) (he : Env w) :
    Calls Tryd.prog 6 #[.string b] w (GaveR l w) := by
  have hsz : b.size ≤ 100 := by rw [Lib.size_eq, hb]; have := Tx.full_len l; omega
  by_cases h0 : l = []
  · subst h0
    obtain rfl : b = ⟨#[48]⟩ := str_eq hb
    go_enter Tryd.func6, Tryd.ntmps6
    go_wp2
    go_ret2
    exact ⟨_, rfl, ⟨none, 0, rfl, .inl rfl⟩, Fr.refl _ _⟩
  · have HB := Lib.hid hb
    have HE := Lib.hid he
    have HS := Lib.hid hs
    have HM := Lib.hid hm
    have HSG := Lib.hid (Tx.full_sign h0 hs)
    have HJ := Lib.hid (Tx.full_eq h0)
    have HW := Lib.hid (Tx.words_len h0)
    have hne : ¬ b = ⟨#[48]⟩ := fun e => Tx.full_zero h0 hs (by rw [← hb, e])
    have hne1 : b.toList ≠ [48] := fun e => by
      apply Tx.full_zero h0 hs; rw [← hb, ← e, Lib.toList_data]
    have hne' : (b.toList == [48]) = false := by simpa using hne1
    clear hb he hs hm
    obtain ⟨n, hn⟩ : ∃ n, n = l.length := ⟨_, rfl⟩
    have hn0 : 1 ≤ n := by rw [hn]; exact List.length_pos_iff.2 h0
    have hn9 : n ≤ 9 := by omega
    have HN := Lib.hid hn
    clear hn hl hne1 hne
    by_cases c0 : (l.getD 0 (0, 0)).2 < 0
    · have hb1 : 1 ≤ b.size := by rw [Lib.size_eq, HB.out, HJ.out, if_pos c0]; simp
      have hr : (b.extract 1 b.size).data.toList = Tx.joinS (Tx.words l) := by rw [Lib.extract_to_end, HB.out, HJ.out, if_pos c0]; rfl
      have hrs : (b.extract 1 b.size).size ≤ 2000 := by simp; omega
      have HSP := Lib.hid (split_any (b.extract 1 b.size) (Tx.words l) hr (by intro e; have := HW.out; rw [e] at this; simp at this; have := HN.out; omega) (Tx.words_blank HS.out) hrs)
      have HP : Hid (Lib.hasPrefix b.data.toList [45] = true) := Lib.hid (by rw [HB.out, HSG.out]; exact decide_eq_true c0)
      have i0 : (1 : Int) ≤ b.size := by omega
      clear hr hrs
      go_enter Tryd.func6, Tryd.ntmps6
      go_wp2_with fail
      refine (prefix_any b ⟨#[45]⟩ _ [45] _ rfl rfl HP.out _).mono ?_
      rintro r w' ⟨rfl, rfl⟩
      go_wp2_with fail
      go_quiet (fail)
      go_wp2_with fail
      have HNW : Hid (New w' (w'.drewN nq)) := Lib.hid ((Fr.refl _ _).drewN _)
      have HENV := Lib.hid (New.env HNW.out HE.out)
      refine (HSP.out _ HENV.out).mono ?_
      rintro r wS ⟨a, cS, rfl, HWA, HNS⟩
      have HWL := Lib.hid (words_len_n HW.out HN.out)
      rw [HWL.out]
      obtain ⟨L, hL⟩ : ∃ L, L = 2 * n - 1 := ⟨_, rfl⟩
      rw [← hL]
      have hL17 : L ≤ 17 := by omega
      have HLL := Lib.hid hL
      clear hL
      obtain ⟨i0, hi, hz0, hz1, hz2⟩ := info_parts info31
      go_wp2
      go_loopw [4, 5, 25] (fun v s i wr => ∃ (j k : Nat), j < n ∧ i = .int .i64 k ∧ Hid (New wS wr) ∧ ((k = 2 * j ∧ s = .int .i64 (sgn (l.getD j (0, 0)).2) ∧ Hid (OwnT wS.heap.size wr v (l.take j))) ∨ (k = 2 * j + 1 ∧ (∃ z : Int, s = .int .i64 z) ∧ Hid (OwnT wS.heap.size wr v (l.take (j + 1)))))) (fun _ _ i _ => 2 * n - (intOf i).toNat)
      case atStart => exact ⟨0, 0, by omega, rfl, Lib.hid (Fr.refl _ _), .inl ⟨rfl, by rw [show sgn (l.getD 0 (0, 0)).2 = -1 by unfold sgn; rw [if_pos (by omega)]], Lib.hid (OwnT.nil_ _ _)⟩⟩
      case round =>
        obtain ⟨j, k, hj, rfl, HF, hcase⟩ := hrel
        have hL := HLL.out
        rcases hcase with ⟨hk, rfl, HO⟩ | ⟨hk, ⟨z, rfl⟩, HO⟩
        · obtain ⟨x, d1, HX⟩ := (New.words HF.out HWA.out).at_ (k := k) (u := Tx.body (l.getD j (0, 0)).1 (l.getD j (0, 0)).2.natAbs) (by rw [HWL.out]; omega) (by rw [hk]; exact Tx.words_term (by rw [← HN.out]; exact hj))
          have hsm := sm4_at HS.out (k := j) (by rw [← HN.out]; exact hj)
          have HTK := Lib.hid (take_next (l := l) (j := j) (by rw [← HN.out]; exact hj))
          obtain ⟨e1, H1⟩ : ∃ e, Hid (e = (l.getD j (0, 0)).1) := ⟨_, Lib.hid rfl⟩
          obtain ⟨e2, H2⟩ : ∃ e, Hid (e = (l.getD j (0, 0)).2) := ⟨_, Lib.hid rfl⟩
          rw [← H1.out, ← H2.out] at HX HTK hsm
          rw [← H2.out]
          obtain ⟨⟨b1, b2⟩, b3, b4, b5⟩ := hsm
          obtain ⟨q, hq⟩ : ∃ q : Nat, q = e2.natAbs := ⟨_, rfl⟩
          rw [← hq] at HX
          have HTM := Lib.hid (term_any x e1 q HX.out b1 b2 (by omega) (by omega) wr (New.env (HNS.out.trans HF.out) (New.env (Fr.refl _ _) HENV.out)))
          have i1 : (0 : Int) ≤ (k : Int) := by omega
          have i2 : (k : Int) < (L : Int) := by omega
          have hrem' : ((k : Int) % 2 == 1) = false := by simp; omega
          have hlenL : (l.take j).length = j := by rw [List.length_take]; have := HN.out; omega
          have HK := Lib.hid hk
          clear hk hL
          by_cases c1 : e2 < 0
          · obtain rfl : e2 = -(q : Int) := by omega
            rw [show sgn (-(q : Int)) = -1 by unfold sgn; rw [if_pos c1]]
            clear hq c1
            go_wp2_with fail
            refine HTM.out.mono ?_
            rintro r wt ⟨rfl, hnt⟩
            have HNT := Lib.hid hnt
            clear hnt
            have HW2 : Hid (New wr (wt.alloc (.cells #[.int .i64 e1, .int .i64 (-(q : Int))] 31))) := Lib.hid (Fr.alloc HNT.out _)
            have hsz : (wt.alloc (.cells #[.int .i64 e1, .int .i64 (-(q : Int))] 31)).heap.size = wt.heap.size + 1 := by simp
            have HO2 : Hid (OwnT wS.heap.size (wt.alloc (.cells #[.int .i64 e1, .int .i64 (-(q : Int))] 31)) u4 (l.take j)) := Lib.hid (Fr.owns HW2.out HO.out (fun _ _ x => x))
            go_wp2_with (at_builtin; refine wpList_append_own _ rfl _ _ 23 rfl wS.heap.size 31 i0 (.agg #[.int .i64 0, .int .i64 0]) 2 16 Tryd.underlying23 hi hz0 hz1 hz2 rfl (by decide) _ (l.take j).length (cellsT (l.take j)) rfl ?d0 ⟨_, 0, none⟩ 1 1 [.int .i64 e1, .int .i64 (-(q : Int))] rfl rfl ?d2 ?d3 ?d4 ?d5 ?d6 ?_)
            case d0 => exact World.ownsRow.alloc HO2.out _
            case d2 => rw [← hsz]; exact cell_two_new _ _ _ _
            case d3 => exact two_ints _ _
            case d4 => rw [hlenL]; unfold maxLen; omega
            case d5 => rw [hlenL]; omega
            case d6 => have h1 := HF.out.size; have h2 := HNT.out.size; simp; omega
            intro v' w1 hown hgrow _
            have hnew := Lib.hid (New.appended (HF.out.trans HW2.out) HO2.out hgrow)
            have ho : Hid (OwnT wS.heap.size w1 v' (l.take (j + 1))) := Lib.hid (by rw [HTK.out]; exact OwnT.snoc (by rw [hlenL]; exact hown))
            clear hown hgrow
            go_wp2
            go_roundw
            case rel => exact ⟨j, k + 1, hj, by go_num, hnew, .inr ⟨by have := HK.out; omega, ⟨_, rfl⟩, ho⟩⟩
            case measure => have := HK.out; have := HLL.out; simp [intOf]; omega
          · obtain rfl : e2 = (q : Int) := by omega
            rw [show sgn ((q : Int)) = 1 by unfold sgn; rw [if_neg c1]]
            clear hq c1
            go_wp2_with fail
            refine HTM.out.mono ?_
            rintro r wt ⟨rfl, hnt⟩
            have HNT := Lib.hid hnt
            clear hnt
            have HW2 : Hid (New wr (wt.alloc (.cells #[.int .i64 e1, .int .i64 ((q : Int))] 31))) := Lib.hid (Fr.alloc HNT.out _)
            have hsz : (wt.alloc (.cells #[.int .i64 e1, .int .i64 ((q : Int))] 31)).heap.size = wt.heap.size + 1 := by simp
            have HO2 : Hid (OwnT wS.heap.size (wt.alloc (.cells #[.int .i64 e1, .int .i64 ((q : Int))] 31)) u4 (l.take j)) := Lib.hid (Fr.owns HW2.out HO.out (fun _ _ x => x))
            go_wp2_with (at_builtin; refine wpList_append_own _ rfl _ _ 23 rfl wS.heap.size 31 i0 (.agg #[.int .i64 0, .int .i64 0]) 2 16 Tryd.underlying23 hi hz0 hz1 hz2 rfl (by decide) _ (l.take j).length (cellsT (l.take j)) rfl ?d0 ⟨_, 0, none⟩ 1 1 [.int .i64 e1, .int .i64 ((q : Int))] rfl rfl ?d2 ?d3 ?d4 ?d5 ?d6 ?_)
            case d0 => exact World.ownsRow.alloc HO2.out _
            case d2 => rw [← hsz]; exact cell_two_new _ _ _ _
            case d3 => exact two_ints _ _
            case d4 => rw [hlenL]; unfold maxLen; omega
            case d5 => rw [hlenL]; omega
            case d6 => have h1 := HF.out.size; have h2 := HNT.out.size; simp; omega
            intro v' w1 hown hgrow _
            have hnew := Lib.hid (New.appended (HF.out.trans HW2.out) HO2.out hgrow)
            have ho : Hid (OwnT wS.heap.size w1 v' (l.take (j + 1))) := Lib.hid (by rw [HTK.out]; exact OwnT.snoc (by rw [hlenL]; exact hown))
            clear hown hgrow
            go_wp2
            go_roundw
            case rel => exact ⟨j, k + 1, hj, by go_num, hnew, .inr ⟨by have := HK.out; omega, ⟨_, rfl⟩, ho⟩⟩
            case measure => have := HK.out; have := HLL.out; simp [intOf]; omega
        · by_cases hlt : k < L
          · obtain ⟨x, d1, HX⟩ := (New.words HF.out HWA.out).at_ (k := k) (u := Tx.sg (l.getD (j + 1) (0, 0)).2) (by rw [HWL.out]; omega) (by rw [hk]; exact Tx.words_sign (by rw [← HN.out]; omega))
            obtain ⟨e2, H2⟩ : ∃ e, Hid (e = (l.getD (j + 1) (0, 0)).2) := ⟨_, Lib.hid rfl⟩
            rw [← H2.out] at HX
            have i1 : (0 : Int) ≤ (k : Int) := by omega
            have i2 : (k : Int) < (L : Int) := by omega
            have hrem' : ((k : Int) % 2 == 1) = true := by simp; omega
            have HK := Lib.hid hk
            clear hk hL
            by_cases c1 : e2 < 0
            · obtain rfl : x = ⟨#[45]⟩ := str_eq (HX.out.trans (by unfold Tx.sg; rw [if_pos c1]))
              go_wp2
              go_roundw
              case rel => exact ⟨j + 1, k + 1, by have := HK.out; have := HLL.out; omega, by go_num, HF, .inl ⟨by have := HK.out; omega, by rw [← H2.out]; unfold sgn; rw [if_pos c1], HO⟩⟩
              case measure => have := HK.out; have := HLL.out; simp [intOf]; omega
            · obtain rfl : x = ⟨#[43]⟩ := str_eq (HX.out.trans (by unfold Tx.sg; rw [if_neg c1]))
              go_wp2
              go_roundw
              case rel => exact ⟨j + 1, k + 1, by have := HK.out; have := HLL.out; omega, by go_num, HF, .inl ⟨by have := HK.out; omega, by rw [← H2.out]; unfold sgn; rw [if_neg c1], HO⟩⟩
              case measure => have := HK.out; have := HLL.out; simp [intOf]; omega
          · obtain rfl : j = n - 1 := by omega
            have HL' : Hid (OwnT wS.heap.size wr u4 l) := Lib.hid (by have := HO.out; rwa [show n - 1 + 1 = l.length by have := HN.out; omega, List.take_length] at this)
            have i2 : ¬ (k : Int) < (L : Int) := by omega
            clear hk hL
            go_wp2_with fail
            refine (may_any u4 l wr HL'.out.ts HM.out).mono ?_
            rintro r wm ⟨rfl, hnm⟩
            have HNM := Lib.hid hnm
            clear hnm
            go_wp2_with fail
            refine (text_any u4 l wm (New.ts HNM.out HL'.out.ts) HS.out.sm (by have := HM.out.1; omega) (New.env HNM.out (New.env (HNS.out.trans HF.out) HENV.out))).mono ?_
            rintro r wt ⟨b', rfl, hb', HNT⟩
            obtain rfl : b' = b := str_eq (hb'.out.trans HB.out.symm)
            go_wp2
            go_ret2
            exact ⟨u4, rfl, New.ts HNT.out (New.ts HNM.out HL'.out.ts), HNW.out.trans (HNS.out.trans (HF.out.trans (HNM.out.trans HNT.out)))⟩
    · have hr : b.data.toList = Tx.joinS (Tx.words l) := by rw [HB.out, HJ.out, if_neg c0]; rfl
      have HSP := Lib.hid (split_any b (Tx.words l) hr (by intro e; have := HW.out; rw [e] at this; simp at this; have := HN.out; omega) (Tx.words_blank HS.out) (by omega))
      have HP : Hid (Lib.hasPrefix b.data.toList [45] = false) := Lib.hid (by rw [HB.out, HSG.out]; exact decide_eq_false c0)
      clear hr
      go_enter Tryd.func6, Tryd.ntmps6
      go_wp2_with fail
      refine (prefix_any b ⟨#[45]⟩ _ [45] _ rfl rfl HP.out _).mono ?_
      rintro r w' ⟨rfl, rfl⟩
      go_wp2_with fail
      have HNW : Hid (New w' w') := Lib.hid (Fr.refl _ _)
      have HENV := HE
      refine (HSP.out _ HENV.out).mono ?_
      rintro r wS ⟨a, cS, rfl, HWA, HNS⟩
      have HWL := Lib.hid (words_len_n HW.out HN.out)
      rw [HWL.out]
      obtain ⟨L, hL⟩ : ∃ L, L = 2 * n - 1 := ⟨_, rfl⟩
      rw [← hL]
      have hL17 : L ≤ 17 := by omega
      have HLL := Lib.hid hL
      clear hL
      obtain ⟨i0, hi, hz0, hz1, hz2⟩ := info_parts info31
      go_wp2
      go_loopw [4, 5, 25] (fun v s i wr => ∃ (j k : Nat), j < n ∧ i = .int .i64 k ∧ Hid (New wS wr) ∧ ((k = 2 * j ∧ s = .int .i64 (sgn (l.getD j (0, 0)).2) ∧ Hid (OwnT wS.heap.size wr v (l.take j))) ∨ (k = 2 * j + 1 ∧ (∃ z : Int, s = .int .i64 z) ∧ Hid (OwnT wS.heap.size wr v (l.take (j + 1)))))) (fun _ _ i _ => 2 * n - (intOf i).toNat)
      case atStart => exact ⟨0, 0, by omega, rfl, Lib.hid (Fr.refl _ _), .inl ⟨rfl, by rw [show sgn (l.getD 0 (0, 0)).2 = 1 by unfold sgn; rw [if_neg (by omega)]], Lib.hid (OwnT.nil_ _ _)⟩⟩
      case round =>
        obtain ⟨j, k, hj, rfl, HF, hcase⟩ := hrel
        have hL := HLL.out
        rcases hcase with ⟨hk, rfl, HO⟩ | ⟨hk, ⟨z, rfl⟩, HO⟩
        · obtain ⟨x, d1, HX⟩ := (New.words HF.out HWA.out).at_ (k := k) (u := Tx.body (l.getD j (0, 0)).1 (l.getD j (0, 0)).2.natAbs) (by rw [HWL.out]; omega) (by rw [hk]; exact Tx.words_term (by rw [← HN.out]; exact hj))
          have hsm := sm4_at HS.out (k := j) (by rw [← HN.out]; exact hj)
          have HTK := Lib.hid (take_next (l := l) (j := j) (by rw [← HN.out]; exact hj))
          obtain ⟨e1, H1⟩ : ∃ e, Hid (e = (l.getD j (0, 0)).1) := ⟨_, Lib.hid rfl⟩
          obtain ⟨e2, H2⟩ : ∃ e, Hid (e = (l.getD j (0, 0)).2) := ⟨_, Lib.hid rfl⟩
          rw [← H1.out, ← H2.out] at HX HTK hsm
          rw [← H2.out]
          obtain ⟨⟨b1, b2⟩, b3, b4, b5⟩ := hsm
          obtain ⟨q, hq⟩ : ∃ q : Nat, q = e2.natAbs := ⟨_, rfl⟩
          rw [← hq] at HX
          have HTM := Lib.hid (term_any x e1 q HX.out b1 b2 (by omega) (by omega) wr (New.env (HNS.out.trans HF.out) (New.env (Fr.refl _ _) HENV.out)))
          have i1 : (0 : Int) ≤ (k : Int) := by omega
          have i2 : (k : Int) < (L : Int) := by omega
          have hrem' : ((k : Int) % 2 == 1) = false := by simp; omega
          have hlenL : (l.take j).length = j := by rw [List.length_take]; have := HN.out; omega
          have HK := Lib.hid hk
          clear hk hL
          by_cases c1 : e2 < 0
          · obtain rfl : e2 = -(q : Int) := by omega
            rw [show sgn (-(q : Int)) = -1 by unfold sgn; rw [if_pos c1]]
            clear hq c1
            go_wp2_with fail
            refine HTM.out.mono ?_
            rintro r wt ⟨rfl, hnt⟩
            have HNT := Lib.hid hnt
            clear hnt
            have HW2 : Hid (New wr (wt.alloc (.cells #[.int .i64 e1, .int .i64 (-(q : Int))] 31))) := Lib.hid (Fr.alloc HNT.out _)
            have hsz : (wt.alloc (.cells #[.int .i64 e1, .int .i64 (-(q : Int))] 31)).heap.size = wt.heap.size + 1 := by simp
            have HO2 : Hid (OwnT wS.heap.size (wt.alloc (.cells #[.int .i64 e1, .int .i64 (-(q : Int))] 31)) u4 (l.take j)) := Lib.hid (Fr.owns HW2.out HO.out (fun _ _ x => x))
            go_wp2_with (at_builtin; refine wpList_append_own _ rfl _ _ 23 rfl wS.heap.size 31 i0 (.agg #[.int .i64 0, .int .i64 0]) 2 16 Tryd.underlying23 hi hz0 hz1 hz2 rfl (by decide) _ (l.take j).length (cellsT (l.take j)) rfl ?d0 ⟨_, 0, none⟩ 1 1 [.int .i64 e1, .int .i64 (-(q : Int))] rfl rfl ?d2 ?d3 ?d4 ?d5 ?d6 ?_)
            case d0 => exact World.ownsRow.alloc HO2.out _
            case d2 => rw [← hsz]; exact cell_two_new _ _ _ _
            case d3 => exact two_ints _ _
            case d4 => rw [hlenL]; unfold maxLen; omega
            case d5 => rw [hlenL]; omega
            case d6 => have h1 := HF.out.size; have h2 := HNT.out.size; simp; omega
            intro v' w1 hown hgrow _
            have hnew := Lib.hid (New.appended (HF.out.trans HW2.out) HO2.out hgrow)
            have ho : Hid (OwnT wS.heap.size w1 v' (l.take (j + 1))) := Lib.hid (by rw [HTK.out]; exact OwnT.snoc (by rw [hlenL]; exact hown))
            clear hown hgrow
            go_wp2
            go_roundw
            case rel => exact ⟨j, k + 1, hj, by go_num, hnew, .inr ⟨by have := HK.out; omega, ⟨_, rfl⟩, ho⟩⟩
            case measure => have := HK.out; have := HLL.out; simp [intOf]; omega
          · obtain rfl : e2 = (q : Int) := by omega
            rw [show sgn ((q : Int)) = 1 by unfold sgn; rw [if_neg c1]]
            clear hq c1
            go_wp2_with fail
            refine HTM.out.mono ?_
            rintro r wt ⟨rfl, hnt⟩
            have HNT := Lib.hid hnt
            clear hnt
            have HW2 : Hid (New wr (wt.alloc (.cells #[.int .i64 e1, .int .i64 ((q : Int))] 31))) := Lib.hid (Fr.alloc HNT.out _)
            have hsz : (wt.alloc (.cells #[.int .i64 e1, .int .i64 ((q : Int))] 31)).heap.size = wt.heap.size + 1 := by simp
            have HO2 : Hid (OwnT wS.heap.size (wt.alloc (.cells #[.int .i64 e1, .int .i64 ((q : Int))] 31)) u4 (l.take j)) := Lib.hid (Fr.owns HW2.out HO.out (fun _ _ x => x))
            go_wp2_with (at_builtin; refine wpList_append_own _ rfl _ _ 23 rfl wS.heap.size 31 i0 (.agg #[.int .i64 0, .int .i64 0]) 2 16 Tryd.underlying23 hi hz0 hz1 hz2 rfl (by decide) _ (l.take j).length (cellsT (l.take j)) rfl ?d0 ⟨_, 0, none⟩ 1 1 [.int .i64 e1, .int .i64 ((q : Int))] rfl rfl ?d2 ?d3 ?d4 ?d5 ?d6 ?_)
            case d0 => exact World.ownsRow.alloc HO2.out _
            case d2 => rw [← hsz]; exact cell_two_new _ _ _ _
            case d3 => exact two_ints _ _
            case d4 => rw [hlenL]; unfold maxLen; omega
            case d5 => rw [hlenL]; omega
            case d6 => have h1 := HF.out.size; have h2 := HNT.out.size; simp; omega
            intro v' w1 hown hgrow _
            have hnew := Lib.hid (New.appended (HF.out.trans HW2.out) HO2.out hgrow)
            have ho : Hid (OwnT wS.heap.size w1 v' (l.take (j + 1))) := Lib.hid (by rw [HTK.out]; exact OwnT.snoc (by rw [hlenL]; exact hown))
            clear hown hgrow
            go_wp2
            go_roundw
            case rel => exact ⟨j, k + 1, hj, by go_num, hnew, .inr ⟨by have := HK.out; omega, ⟨_, rfl⟩, ho⟩⟩
            case measure => have := HK.out; have := HLL.out; simp [intOf]; omega
        · by_cases hlt : k < L
          · obtain ⟨x, d1, HX⟩ := (New.words HF.out HWA.out).at_ (k := k) (u := Tx.sg (l.getD (j + 1) (0, 0)).2) (by rw [HWL.out]; omega) (by rw [hk]; exact Tx.words_sign (by rw [← HN.out]; omega))
            obtain ⟨e2, H2⟩ : ∃ e, Hid (e = (l.getD (j + 1) (0, 0)).2) := ⟨_, Lib.hid rfl⟩
            rw [← H2.out] at HX
            have i1 : (0 : Int) ≤ (k : Int) := by omega
            have i2 : (k : Int) < (L : Int) := by omega
            have hrem' : ((k : Int) % 2 == 1) = true := by simp; omega
            have HK := Lib.hid hk
            clear hk hL
            by_cases c1 : e2 < 0
            · obtain rfl : x = ⟨#[45]⟩ := str_eq (HX.out.trans (by unfold Tx.sg; rw [if_pos c1]))
              go_wp2
              go_roundw
              case rel => exact ⟨j + 1, k + 1, by have := HK.out; have := HLL.out; omega, by go_num, HF, .inl ⟨by have := HK.out; omega, by rw [← H2.out]; unfold sgn; rw [if_pos c1], HO⟩⟩
              case measure => have := HK.out; have := HLL.out; simp [intOf]; omega
            · obtain rfl : x = ⟨#[43]⟩ := str_eq (HX.out.trans (by unfold Tx.sg; rw [if_neg c1]))
              go_wp2
              go_roundw
              case rel => exact ⟨j + 1, k + 1, by have := HK.out; have := HLL.out; omega, by go_num, HF, .inl ⟨by have := HK.out; omega, by rw [← H2.out]; unfold sgn; rw [if_neg c1], HO⟩⟩
              case measure => have := HK.out; have := HLL.out; simp [intOf]; omega
          · obtain rfl : j = n - 1 := by omega
            have HL' : Hid (OwnT wS.heap.size wr u4 l) := Lib.hid (by have := HO.out; rwa [show n - 1 + 1 = l.length by have := HN.out; omega, List.take_length] at this)
            have i2 : ¬ (k : Int) < (L : Int) := by omega
            clear hk hL
            go_wp2_with fail
            refine (may_any u4 l wr HL'.out.ts HM.out).mono ?_
            rintro r wm ⟨rfl, hnm⟩
            have HNM := Lib.hid hnm
            clear hnm
            go_wp2_with fail
            refine (text_any u4 l wm (New.ts HNM.out HL'.out.ts) HS.out.sm (by have := HM.out.1; omega) (New.env HNM.out (New.env (HNS.out.trans HF.out) HENV.out))).mono ?_
            rintro r wt ⟨b', rfl, hb', HNT⟩
            obtain rfl : b' = b := str_eq (hb'.out.trans HB.out.symm)
            go_wp2
            go_ret2
            exact ⟨u4, rfl, New.ts HNT.out (New.ts HNM.out HL'.out.ts), HNW.out.trans (HNS.out.trans (HF.out.trans (HNM.out.trans HNT.out)))⟩
end Go.Proofs.YtanidlncijkmnaaDoor
