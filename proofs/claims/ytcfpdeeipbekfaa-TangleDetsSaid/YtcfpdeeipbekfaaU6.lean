/- Walks: the law. -/
import Derived.Deep.CutBlock
import Derived.Test.YtcfpdeeipbekfaaU3
import Derived.Test.YtcfpdeeipbekfaaU4
import Derived.Test.YtcfpdeeipbekfaaU5
import Derived.Test.YtcfpdeeipbekfaaW16
import Derived.Test.YtcfpdeeipbekfaaW9N
namespace Go.Proofs.Ytcfpdeeipbekfaa
open Go.RowKit
theorem fr211 : Kn.frI [2, 1, 1] (1, 0) = (5, 3) := by decide +kernel
theorem three_c {W : World} {B t : Nat} {a b c : Value} (h : W.heap[B]? = some (.cells #[a, b, c] t (0, 0))) : W.cell? ⟨B, 0, none⟩ = some a ∧ W.cell? ⟨B, 1, none⟩ = some b ∧ W.cell? ⟨B, 2, none⟩ = some c := by
  refine ⟨?_, ?_, ?_⟩ <;> simp [World.cell?, h]
theorem ints3 (w : World) : IntsAt (w.alloc (.cells #[.int .i64 2, .int .i64 1, .int .i64 1] 3)) (some ⟨w.heap.size, 0, none⟩) [2, 1, 1] := by
  obtain ⟨h0, h1, h2⟩ := three_c (heap_alloc_new w (.cells #[.int .i64 2, .int .i64 1, .int .i64 1] 3))
  refine .inr ⟨_, 0, rfl, fun i hi => ?_⟩
  match i, hi with
  | 0, _ => exact h0
  | 1, _ => exact h1
  | 2, _ => exact h2
/- a list of twists of the call's own -/
structure Ls (N B : Nat) (w wr : World) (v : Value) (xs : List Int) : Prop where
  len : xs.length ≤ N
  sum : Kn.absL xs ≤ B
  own : Own w.heap.size wr v xs
  new : New w wr
theorem absL_snoc (xs : List Int) (z : Int) : Kn.absL (xs ++ [z]) = Kn.absL xs + z.natAbs := by rw [Kn.absL_app]; simp [Kn.absL]
/- what the right fractions are -/
theorem right_is {p q : Nat} (h1 : 1 ≤ q) (h : rightB p q = true) : (p = 1 ∧ q = 1) ∨ (1 ≤ q ∧ q < p ∧ Nat.gcd p q = 1) := by
  unfold rightB at h
  simp only [Bool.or_eq_true, Bool.and_eq_true, decide_eq_true_eq, beq_iff_eq] at h
  rcases h with h | h
  · exact .inl h
  · exact .inr ⟨h1, h.1, h.2⟩
theorem opC_zero {X : List Kn.Cr} {L : Int} (h1 : Kn.mayB X L = true) (h2 : Kn.planarB X = true) : opC X L = 0 := by
  unfold opC; rw [if_pos h1, if_pos h2]
set_option maxRecDepth 100000 in
set_option maxHeartbeats 8000000 in
theorem law_any (a : Option Addr) (len c : Nat) (p q : Int) (raw : List Int) (w : World) (hlen : len = raw.length) (hx : IntsAt w a raw) (lx : raw.length ≤ 9223372036854775807) (hr : Raw raw) (p1 : -9223372036854775808 ≤ p) (p2 : p ≤ 9223372036854775807) (q1 : -9223372036854775808 ≤ q) (q2 : q ≤ 9223372036854775807) :
    Calls Try.prog 3 #[.slice a len c, .int .i64 p, .int .i64 q] w fun e w' => e = .returned (.bool true) ∧ New w w' := by
  have HX := Lib.hid hx
  have HR := Lib.hid hr
  have HLN := Lib.hid hlen
  have HLX := Lib.hid lx
  have llx : (len : Int) ≤ 9223372036854775807 := by omega
  clear hx hr hlen lx
  obtain ⟨i0, hi, hz0, hz1, hz2⟩ := info_parts Try.info3
  go_enter Try.func3, Try.ntmps3
  go_wp2_with fail
  refine (fraction_any (some ⟨w.heap.size, 0, none⟩) 3 3 [2, 1, 1] _ rfl (ints3 w) rfl (by omega) (by decide)).mono ?_
  rintro e w1 ⟨rfl, hF⟩
  rw [fr211]
  have HF1 : Hid (New w w1) := Lib.hid (((Fr.refl _ _).alloc _).trans hF)
  clear hF
  go_upto_block 0 with fail
  go_cut [10] (fun s10 wx => ∃ xs : List Int, Hid (Ls 9 10 w wx s10 xs))
  case first =>
    go_wp2_with fail
    go_loopw [10, 11, 12] (fun v s i wr => ∃ (xs : List Int), i = .int .i64 (xs.length : Nat) ∧ s = .int .i64 (Kn.absL xs : Nat) ∧ xs.length ≤ len ∧ Hid (Ls 9 10 w wr v xs)) (fun _ _ i _ => 10 - (intOf i).toNat)
    case atStart => exact ⟨[], rfl, rfl, Nat.zero_le _, Lib.hid ⟨Nat.zero_le _, Nat.zero_le _, World.ownsRow_nil _ _ _ _, HF1.out⟩⟩
    case round =>
      obtain ⟨xs, rfl, rfl, hxl, HL⟩ := hrel
      obtain ⟨k, HK⟩ : ∃ k, Hid (k = xs.length) := ⟨_, Lib.hid rfl⟩
      obtain ⟨y, HY⟩ : ∃ y, Hid (y = Kn.absL xs) := ⟨_, Lib.hid rfl⟩
      rw [← HK.out] at hxl ⊢
      rw [← HY.out]
      have hk9 : k ≤ 9 := by have := HL.out.len; have := HK.out; omega
      have hy10 : y ≤ 10 := by have := HL.out.sum; have := HY.out; omega
      by_cases hlt : k < len
      · by_cases hl9 : k < 9
        · obtain ⟨b, o, e, d1⟩ := (New.ints HL.out.new HX.out).at (k := k) (by have := HLN.out; omega)
          subst e
          obtain ⟨x, HXk⟩ : ∃ x, Hid (x = raw.getD k 0) := ⟨_, Lib.hid rfl⟩
          have hb := HR.out.get k
          rw [← HXk.out] at d1 hb
          have cc := picked_any x 9 wr hb.1 hb.2 (by omega) (by omega)
          have hp := pick_range (n := x) (m := 9) (by omega)
          obtain ⟨t, HT⟩ : ∃ t, Hid (t = pick x 9) := ⟨_, Lib.hid rfl⟩
          rw [← HT.out] at cc hp
          have CC := Lib.hid cc
          obtain ⟨hp1, hp2⟩ := hp
          obtain ⟨z, HZ⟩ : ∃ z, Hid (z = t - 4) := ⟨_, Lib.hid rfl⟩
          have ez := HZ.out.symm
          have z1 : -4 ≤ z := by omega
          have z2 : z ≤ 4 := by omega
          clear cc hb
          have i1 : (0 : Int) ≤ (k : Int) := by omega
          have i2 : (k : Int) < (len : Int) := by omega
          have i3 : (k : Int) < 9 := by omega
          go_wp2_with fail
          refine CC.out.mono ?_
          rintro e w' ⟨rfl, rfl⟩
          obtain ⟨s, HS⟩ : ∃ s : Nat, Hid (s = y + z.natAbs) := ⟨_, Lib.hid rfl⟩
          have hz : (z < 0 ∧ (y : Int) - z = (s : Int)) ∨ (¬ z < 0 ∧ (y : Int) + z = (s : Int)) := by have := HS.out; omega
          have s14 : s ≤ 14 := by have := HS.out; omega
          rcases hz with ⟨hz, es⟩ | ⟨hz, es⟩
          all_goals
            by_cases hs : s ≤ 10
            · have hs' : ¬ (10 : Int) < (s : Int) := by omega
              go_wp2_with (at_builtin; refine wpList_append_own _ rfl _ _ 22 rfl w.heap.size 3 i0 (.int .i64 0) 1 8 Try.underlying22 hi hz0 hz1 hz2 rfl (by decide) _ xs.length (ints xs) rfl ?d0 ⟨_, 0, none⟩ 1 1 [.int .i64 z] rfl rfl ?d2 ?d3 ?d4 ?d5 ?d6 ?_)
              case d0 => exact World.ownsRow.alloc HL.out.own _
              case d2 => exact cell_one_new _ _ _
              case d3 => exact one_ints _
              case d4 => have := HK.out; unfold maxLen; omega
              case d5 => have := HK.out; omega
              case d6 => have := HL.out.new.size; simp; omega
              intro v' w1 hown hgrow _
              have hnew := Lib.hid (New.appended HL.out.new HL.out.own hgrow)
              have ho := Lib.hid (Own.snoc hown)
              clear hown hgrow
              go_wp2
              go_roundw
              case rel => exact ⟨xs ++ [z], by rw [List.length_append, ← HK.out]; rfl, by rw [absL_snoc, ← HY.out, ← HS.out], by rw [List.length_append, ← HK.out]; show k + 1 ≤ _; omega, Lib.hid ⟨by rw [List.length_append, ← HK.out]; show k + 1 ≤ _; omega, by rw [absL_snoc, ← HY.out, ← HS.out]; exact hs, ho.out, hnew.out⟩⟩
              case measure => simp [intOf]; omega
            · have hs' : (10 : Int) < (s : Int) := by omega
              go_wp2_with fail
              go_meet
              exact ⟨xs, HL⟩
        · obtain rfl : k = 9 := by omega
          go_wp2_with fail
          go_meet
          exact ⟨xs, HL⟩
      · go_wp2_with fail
        go_meet
        exact ⟨xs, HL⟩
  case rest =>
  obtain ⟨xs, HL⟩ := hcut
  obtain ⟨w2, rfl⟩ : ∃ w2, w2 = wc := ⟨_, rfl⟩
  obtain ⟨va, vc, rfl, _⟩ := own_shape2 HL.out.own
  obtain ⟨k, HK⟩ : ∃ k, Hid (k = xs.length) := ⟨_, Lib.hid rfl⟩
  rw [← HK.out]
  have hk9 : k ≤ 9 := by rw [HK.out]; exact HL.out.len
  have k0 : (0 : Int) ≤ (k : Int) := by omega
  go_upto_if 78 with fail
  go_cut [10] (fun s10 wx => ∃ l : List Int, l.length % 2 = 1 ∧ Hid (Ls 10 10 w wx s10 l))
  case first =>
    have hm : (k : Int).tmod 2 = ((k % 2 : Nat) : Int) := by rw [Int.tmod_eq_emod_of_nonneg (by omega)]; omega
    rcases (show k % 2 = 0 ∨ k % 2 = 1 by omega) with h2 | h2
    · rw [h2] at hm
      go_wp2_with (at_builtin; refine wpList_append_own _ rfl _ _ 22 rfl w.heap.size 3 i0 (.int .i64 0) 1 8 Try.underlying22 hi hz0 hz1 hz2 rfl (by decide) _ xs.length (ints xs) rfl ?d0 ⟨_, 0, none⟩ 1 1 [.int .i64 0] rfl rfl ?d2 ?d3 ?d4 ?d5 ?d6 ?_)
      case d0 => rw [HK.out]; exact World.ownsRow.alloc HL.out.own _
      case d2 => exact cell_one_new _ _ _
      case d3 => exact one_ints _
      case d4 => have := HK.out; unfold maxLen; omega
      case d5 => have := HK.out; omega
      case d6 => have := HL.out.new.size; simp; omega
      intro v' w3 hown hgrow _
      have hnew := Lib.hid (New.appended HL.out.new (by rw [HK.out]; exact HL.out.own) hgrow)
      have ho := Lib.hid (Own.snoc hown)
      clear hown hgrow
      go_wp2_with fail
      go_meet
      exact ⟨xs ++ [0], by rw [List.length_append, ← HK.out]; show (k + 1) % 2 = 1; omega, Lib.hid ⟨by rw [List.length_append, ← HK.out]; show k + 1 ≤ _; omega, by rw [absL_snoc]; exact HL.out.sum, ho.out, hnew.out⟩⟩
    · rw [h2] at hm
      go_wp2_with fail
      go_meet
      exact ⟨xs, by rw [← HK.out]; exact h2, Lib.hid ⟨by have := HL.out.len; omega, HL.out.sum, by rw [HK.out]; exact HL.out.own, HL.out.new⟩⟩
  case rest =>
  obtain ⟨l, hl, HM⟩ := hcut
  obtain ⟨w3, rfl⟩ : ∃ w3, w3 = wc := ⟨_, rfl⟩
  obtain ⟨la, lc, el, hli, _⟩ := IntsAt.of_owns HM.out.own
  cases el
  obtain ⟨n, HN⟩ : ∃ n, Hid (n = l.length) := ⟨_, Lib.hid rfl⟩
  have hn10 : n ≤ 10 := by rw [HN.out]; exact HM.out.len
  have HLI := Lib.hid hli
  obtain ⟨X, L, hD, hX10, hL2, hmay, hpl, hB, hparts, hdet⟩ := Kn.list_law hl HM.out.sum
  have hfb := (Kn.fr_bd (l := l) (Nat.le_trans HM.out.sum (by omega)) l.length).1
  rw [List.take_length] at hfb
  obtain ⟨⟨A, B⟩, HAB⟩ : ∃ z, Hid (z = Kn.frI l (1, 0)) := ⟨_, Lib.hid rfl⟩
  rw [← HAB.out] at hfb hB hparts hdet
  obtain ⟨⟨A1, A2⟩, B1, B2⟩ := hfb
  simp only at A1 A2 B1 B2 hB hparts hdet
  have hl' : n % 2 = 1 := by rw [HN.out]; exact hl
  have HD := Lib.hid hD
  have HMAY := Lib.hid hmay
  have HPL := Lib.hid hpl
  have HPA := Lib.hid hparts
  have HDT := Lib.hid hdet
  obtain ⟨nx, HNX⟩ : ∃ n, Hid (n = X.length) := ⟨_, Lib.hid rfl⟩
  have hnx : nx ≤ 10 := by rw [HNX.out]; exact hX10
  rw [← HN.out]
  clear hli hD hmay hpl hparts hdet hl hX10 HL HX HK hk9 k0
  go_wp2_with fail
  refine (fraction_any la n lc l _ HN.out HLI.out hl' (by omega) (Nat.le_trans HM.out.sum (by omega))).mono ?_
  rintro e w4 ⟨rfl, hF⟩
  rw [← HAB.out]
  have HF4 := Lib.hid (HM.out.new.trans hF)
  have HLI := Lib.hid (New.ints hF HLI.out)
  clear hF
  go_wp2_with fail
  refine (linkI_any la n lc l _ HN.out HLI.out hl' (by omega) (Nat.le_trans HM.out.sum (by omega)) X L HD.out).mono ?_
  rintro e w5 ⟨sv, rfl, hO, hF⟩
  have HF5 := Lib.hid (HF4.out.trans hF)
  have HOX := Lib.hid hO
  obtain ⟨sa, sc, rfl, _⟩ := own_shape2 hO
  clear hO hF
  go_upto_region 19 with fail
  obtain ⟨u1, HU1⟩ : ∃ z, Hid (z = w5.alloc (.cells #[.slice sa X.length sc, .int .i64 (L : Nat)] 29)) := ⟨_, Lib.hid rfl⟩
  obtain ⟨b1, HB1⟩ : ∃ z, Hid (z = w5.heap.size) := ⟨_, Lib.hid rfl⟩
  have hn1 : New w5 u1 := by rw [HU1.out]; exact (Fr.refl _ _).alloc _
  have HBX : Hid (u1.heap[b1]? = some (.cells #[.slice sa X.length sc, .int .i64 (L : Nat)] 29 (0, 0))) := Lib.hid (by rw [HU1.out, HB1.out]; exact heap_alloc_new w5 _)
  rw [← HU1.out, ← HB1.out]
  have HFa := Lib.hid (HF5.out.trans hn1)
  have HOX := Lib.hid (hn1.owns HOX.out fun _ _ x => x)
  clear hn1 HU1 HB1
  obtain ⟨ax, cx, ex, hcx⟩ := CrsAt.of_owns HOX.out
  cases ex
  have HCX := Lib.hid hcx
  clear hcx
  rw [← HNX.out] at HBX
  have hLb : (L : Int) ≤ 16 := by omega
  have hL0 : (0 : Int) ≤ (L : Int) := by omega
  obtain ⟨c0, c1⟩ := two_c HBX.out
  go_wp2_with fail
  refine (cplanar_any sa nx sc X (L : Int) _ HCX.out HNX.out (by omega) (by omega) (by omega)).mono ?_
  rintro e w6 ⟨hF, h6⟩
  rw [HMAY.out, HPL.out] at h6
  rcases h6 with ⟨_, rfl⟩ | ⟨h6, _⟩
  case inr => cases h6
  have HFa := Lib.hid (HFa.out.trans hF)
  have HCX := Lib.hid (New.crs hF HCX.out)
  have HBX := Lib.hid (hF.blk HBX.out fun x => x)
  clear hF c0 c1
  obtain ⟨c0, c1⟩ := two_c HBX.out
  go_wp2_with fail
  refine (determinant_any sa nx sc X L _ HCX.out HNX.out hnx (by omega) (opC_zero HMAY.out HPL.out)).mono ?_
  rintro e w7 ⟨hF, m, hm, rfl⟩
  have hdv := HDT.out m hm
  obtain ⟨D, HDD⟩ : ∃ z, Hid (z = max (Kn.dS m) (-Kn.dS m)) := ⟨_, Lib.hid rfl⟩
  rw [← HDD.out] at hdv ⊢
  have HDV := Lib.hid hdv
  have HFa := Lib.hid (HFa.out.trans hF)
  have HCX := Lib.hid (New.crs hF HCX.out)
  have HBX := Lib.hid (hF.blk HBX.out fun x => x)
  clear hF c0 c1 hm hdv
  obtain ⟨c0, c1⟩ := two_c HBX.out
  go_wp2_with fail
  refine (gstrands_any sa nx sc X (L : Int) _ HCX.out HNX.out (by omega) (by omega) (by omega)).mono ?_
  rintro e w8 ⟨hF, h8⟩
  rw [HMAY.out] at h8
  rcases h8 with ⟨_, v8, rfl, h8⟩ | ⟨h8, _⟩
  case inr => cases h8
  obtain ⟨vs, hv1, hv2⟩ := h8
  obtain ⟨a8, c8, rfl, _⟩ := own_shape2 hv1
  have hvl := hv2.len
  obtain ⟨sl, HSL⟩ : ∃ z, Hid (z = vs.length) := ⟨_, Lib.hid rfl⟩
  rw [← HSL.out] at hvl ⊢
  have HPB : Hid (sl + L = if A % 2 = 0 then 2 else 1) := Lib.hid (by rw [hvl]; exact HPA.out)
  have HFa := Lib.hid (HFa.out.trans hF)
  have HBX := Lib.hid (hF.blk HBX.out fun x => x)
  clear hF c0 c1 hv1 hv2 hvl
  obtain ⟨c0, c1⟩ := two_c HBX.out
  have hbn : ¬ B < 0 := by omega
  obtain ⟨tt, HTT⟩ : ∃ z : Int, Hid (z = (sl : Int) + (L : Int)) := ⟨_, Lib.hid rfl⟩
  have HPC : Hid (tt = if A % 2 = 0 then 2 else 1) := Lib.hid (by
    have h1 := HPB.out
    have h2 := HTT.out
    split <;> rename_i hc
    · rw [if_pos hc] at h1; omega
    · rw [if_neg hc] at h1; omega)
  have t1 : 0 ≤ tt := by have := HTT.out; omega
  have t2 : tt ≤ 2 := by
    have := HPC.out
    split at this <;> omega
  have hs1 : (sl : Int) ≤ 2 := by have := HTT.out; omega
  have hs0 : (0 : Int) ≤ (sl : Int) := by omega
  go_upto_region 22 with fail
  go_cut [144] (fun s144 wx => s144 = .bool false ∧ w8 = wx)
  case first =>
    have hdv := HDV.out
    by_cases hda : D = A
    · subst hda
      go_wp2_with fail
      go_meet
      exact ⟨by first | rfl | (rw [decide_eq_false (show ¬ B < 0 by omega)]), rfl⟩
    · have hn : -A = D := by omega
      have hd2 : (D == A) = false := by simpa using hda
      clear hdv
      go_wp2_with fail
      go_meet
      exact ⟨by first | rfl | (rw [decide_eq_false (show ¬ B < 0 by omega)]), rfl⟩
  case rest =>
  obtain ⟨rfl, rfl⟩ := hcut
  have e3 := HTT.out.symm
  go_upto_region 25 with fail
  clear e3
  go_cut [165] (fun s165 wx => s165 = .bool false ∧ w8 = wx)
  case first =>
    have hpb := HPC.out
    by_cases ha : A % 2 = 0
    · rw [if_pos ha] at hpb
      have e1 : A.tmod 2 = 0 := Int.tmod_eq_zero_of_dvd (Int.dvd_of_emod_eq_zero ha)
      clear HTT HPC
      subst hpb
      clear ha
      go_wp2_with fail
      go_meet
      exact ⟨rfl, rfl⟩
    · rw [if_neg ha] at hpb
      have ht : A.tmod 2 = 1 ∨ A.tmod 2 = -1 := by
        have h1 : (A.tmod 2).natAbs = A.natAbs % 2 := Int.natAbs_tmod A 2
        omega
      clear HTT HPC
      subst hpb
      clear ha
      rcases ht with e1 | e1
      · go_wp2_with fail
        go_meet
        exact ⟨rfl, rfl⟩
      · go_wp2_with fail
        go_meet
        exact ⟨rfl, rfl⟩
  case rest =>
  obtain ⟨rfl, rfl⟩ := hcut
  obtain ⟨r1, r2⟩ := pick_range (n := p) (m := 1000) (by omega)
  obtain ⟨x', hx'⟩ : ∃ k : Nat, pick p 1000 = (k : Nat) := ⟨(pick p 1000).toNat, by omega⟩
  obtain ⟨x, HYtcfpdeeipbekfaa⟩ : ∃ x : Nat, Hid (x = x' + 1) := ⟨_, Lib.hid rfl⟩
  have hx1 : 1 ≤ x := by have := HYtcfpdeeipbekfaa.out; omega
  have hx2 : x ≤ 1000 := by have := HYtcfpdeeipbekfaa.out; omega
  obtain ⟨r3, r4⟩ := pick_range (n := q) (m := (x : Int)) (by omega)
  obtain ⟨y', hy'⟩ : ∃ k : Nat, pick q x = (k : Nat) := ⟨(pick q x).toNat, by omega⟩
  obtain ⟨y, HYY⟩ : ∃ y : Nat, Hid (y = y' + 1) := ⟨_, Lib.hid rfl⟩
  have hy1 : 1 ≤ y := by have := HYY.out; omega
  have hy2 : y ≤ x := by have := HYY.out; omega
  have P1 := fun w => picked_any p 1000 w p1 p2 (by omega) (by omega)
  rw [hx'] at P1
  have P2 := fun w => picked_any q (x : Nat) w q1 q2 (by omega) (by omega)
  rw [hy'] at P2
  have e1 : (1 + (x' : Int)) = (x : Nat) := by have := HYtcfpdeeipbekfaa.out; omega
  have e2 : (1 + (y' : Int)) = (y : Nat) := by have := HYY.out; omega
  have x'1 : (x' : Int) < 1000 := by omega
  have y'1 : (y' : Int) < 1000 := by omega
  have HP1 := Lib.hid P1
  have HP2 := Lib.hid P2
  clear P1 P2 hx' hy' r1 r2 r3 r4 c0 c1
  go_wp2_with fail
  refine (HP1.out w8).mono ?_
  rintro e w9 ⟨rfl, rfl⟩
  go_wp2_with fail
  refine (HP2.out _).mono ?_
  rintro e w10 ⟨rfl, rfl⟩
  go_wp2_with fail
  refine (expand_any x y _ hx1 hx2 hy1 hy2).mono ?_
  rintro e w11 ⟨hF, h11⟩
  have HFb := Lib.hid (HFa.out.trans hF)
  clear hF
  rcases h11 with ⟨hr, v11, rfl, ho⟩ | ⟨hr, rfl⟩
  · obtain ⟨f1, f2, f3, f4⟩ := Kn.expand_law (right_is hy1 hr)
    obtain ⟨a11, c11, rfl, _⟩ := own_shape2 ho
    generalize Kn.expandL x y = ms at *
    obtain ⟨N, HNN⟩ : ∃ N, Hid (N = ms.length) := ⟨_, Lib.hid rfl⟩
    have HO := Lib.hid ho
    have HF2 := Lib.hid f2
    have hlen : ∀ l : List Nat, (∀ c ∈ l, 1 ≤ c) → l.length ≤ l.sum := fun l => by
      induction l with
      | nil => intro _; simp
      | cons c l ih =>
        intro h
        have := ih fun z hz => h z (List.mem_cons_of_mem _ hz)
        have := h c List.mem_cons_self
        simp; omega
    have hN : N ≤ 1000 := by rw [HNN.out]; have := hlen ms f2; omega
    have hN2 : N % 2 = 1 := by rw [HNN.out]; exact f1
    have VV := fun w (h : w.ownsRow w8.heap.size 3 1 (.slice a11 N c11) N (nums ms)) => value_any w8.heap.size (.slice a11 N c11) ms x y w (by rw [← HNN.out]; exact h) (by omega) (by rw [← HNN.out]; exact hN) hx2 f2 f3
    have HO2 : Hid (w11.ownsRow w8.heap.size 3 1 (.slice a11 N c11) N (nums ms)) := Lib.hid (by have := ho; rw [← HNN.out] at this; exact this)
    have HVV := Lib.hid VV
    rw [← HNN.out]
    clear VV hlen f1 f2 f3 f4 ho hr
    go_wp2_with fail
    go_loopw [28] (fun i wr => ∃ k : Nat, k ≤ N ∧ i = .int .i64 k ∧ Hid (wr = w11)) (fun i _ => N - (intOf i).toNat)
    case atStart => exact ⟨0, by omega, rfl, Lib.hid rfl⟩
    case round =>
      obtain ⟨k, hk, rfl, HW⟩ := hrel
      by_cases hlt : k < N
      · have hkl : k < ms.length := by have := HNN.out; omega
        obtain ⟨g, c', e, hc, _⟩ := nums_cell HO.out hkl
        rw [← HNN.out] at e
        cases e
        obtain ⟨u, HU⟩ : ∃ u, Hid (u = ms.getD k 0) := ⟨_, Lib.hid rfl⟩
        have hu := HF2.out (ms.getD k 0) (by rw [List.getD_eq_getElem?_getD, List.getElem?_eq_getElem hkl]; exact List.getElem_mem hkl)
        rw [← HU.out] at hc hu
        have u1 : ¬ (u : Int) < 1 := by omega
        have i1 : (0 : Int) ≤ (k : Int) := by omega
        have i2 : (k : Int) < (N : Int) := by omega
        rw [← HW.out] at hc
        go_wp2
        go_roundw
        case rel => exact ⟨k + 1, by omega, by go_num, HW⟩
        case measure => simp [intOf]; omega
      · obtain rfl : N = k := by omega
        have hm2 : (N : Int).tmod 2 = 1 := by rw [Int.tmod_eq_emod_of_nonneg (by omega)]; omega
        have hwr := HW.out
        subst hwr
        go_wp2_with fail
        refine (HVV.out _ HO2.out).mono ?_
        rintro e w12 ⟨rfl, rfl⟩
        go_wp2_with fail
        go_ret
        exact ⟨rfl, HFb.out⟩
  · go_wp2_with fail
    go_ret
    exact ⟨rfl, HFb.out⟩
end Go.Proofs.Ytcfpdeeipbekfaa
