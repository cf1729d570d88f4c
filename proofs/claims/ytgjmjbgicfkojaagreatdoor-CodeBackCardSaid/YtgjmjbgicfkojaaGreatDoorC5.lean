/- Walks: Show, at a diagram that may be. -/
import Derived.Test.YtgjmjbgicfkojaaGreatDoorC4
namespace Go.Proofs.YtgjmjbgicfkojaaGreatDoor
open Go.RowKit

theorem Tryz.info9 : (Tryz.prog.info? 9).map (fun i => (i.zero, i.size, i.bytes)) = some (some (.string ⟨#[]⟩), 1, 16) := by kernel_rfl
def strs (ws : List Tx.B) : List Value := ws.map fun l => .string ⟨l.toArray⟩
theorem strs_len (ws : List Tx.B) : (strs ws).length = ws.length := by simp [strs]
theorem strs_snoc (ws : List Tx.B) (l : Tx.B) : strs (ws ++ [l]) = strs ws ++ [.string ⟨l.toArray⟩] := by simp [strs]
theorem one_str (b : ByteArray) : ∀ u ∈ [Value.string b], u.oneCell' = true := by
  intro u hu; rw [List.mem_singleton] at hu; subst hu; rfl
theorem mk_of {b : ByteArray} {l : Tx.B} (h : b.data.toList = l) : b = ⟨l.toArray⟩ := str_eq (by simp [h])
theorem app_mk (a b : ByteArray) : (a ++ b).data.toList = a.data.toList ++ b.data.toList := by simp
/- Join of a row of the call's own -/
theorem join_any (g c k : Nat) (base : Nat) (ws : List Tx.B) (sep : UInt8) (w : World) (ho : w.ownsRow base 9 1 (.slice (some ⟨g, 0, none⟩) k c) k (strs ws)) (hk : k = ws.length) (h0 : 0 < k) (hk2 : k ≤ 100) (hl : ∀ u ∈ ws, u.length ≤ 100) :
    Calls Tryz.prog 15 #[.slice (some ⟨g, 0, none⟩) k c, .string ⟨#[sep]⟩] w fun e w' => e = .returned (.string ⟨(Tx.joinW sep ws).toArray⟩) ∧ New w w' := by
  obtain ⟨a9, c9, e9, hc9, h9⟩ := own_shape ho
  cases e9
  obtain ⟨g', e', _, h9⟩ := h9 h0
  cases e'
  have hx : (ws.map fun l => (⟨l.toArray⟩ : ByteArray)).length = k := by rw [List.length_map, hk]
  have hj : Lib.join ((ws.map fun l => (⟨l.toArray⟩ : ByteArray)).map (·.data.toList)) [sep] = Tx.joinW sep ws := by
    rw [Tx.join_eq]
    congr 1
    simp [List.map_map, Function.comp_def]
  have hlen := Tx.joinW_len sep ws 100 hl
  have hg : g < w.heap.size := by
    have := h9 0 (by rw [strs_len]; omega)
    exact World.block_lt_of_cell? w _ this
  have hlen2 : ws.length * 101 ≤ 100 * 101 := Nat.mul_le_mul_right _ (by omega)
  have := Tryz.strings_Join g 0 c (ws.map fun l => (⟨l.toArray⟩ : ByteArray)) ⟨#[sep]⟩ w (fun j x hjx => by
    rw [List.getElem?_map] at hjx
    obtain ⟨l, hl1, hl2⟩ := Option.map_eq_some_iff.1 hjx
    have hjl := (List.getElem?_eq_some_iff.1 hl1).1
    have h := h9 j (by rw [strs_len]; exact hjl)
    rw [Nat.zero_add, h]
    simp [strs, ← hl2, (List.getElem?_eq_some_iff.1 hl1).2]) hg (by rw [hx]; omega) (by rw [hx]; exact hc9) (by
      show (Lib.join _ [sep]).length ≤ _
      rw [hj]; omega)
  rw [hx] at this
  refine this.mono ?_
  rintro e w' ⟨rfl, hB⟩
  refine ⟨?_, new_below hB⟩
  show Ending.returned (.string ⟨(Lib.join _ [sep]).toArray⟩) = _
  rw [hj]
theorem itoa_any (n : Nat) (h : n ≤ 32) (w : World) : Calls Tryz.prog 13 #[.int .i64 n] w fun e w' => e = .returned (.string ⟨(Tx.dd n).toArray⟩) ∧ w' = w := by
  refine (Tryz.strconv_Itoa_small n (by omega) w).mono ?_
  rintro e w' ⟨rfl, rfl⟩
  rw [Tx.dd_eq (by omega)]
  exact ⟨rfl, rfl⟩
theorem arcI_4 (x : Kn.Cr) (j : Nat) : arcI x.a x.b x.c x.d j = arcN4 x j := rfl
structure StI (w wr : World) (ws : List Tx.B) (k : Nat) (v : Value) : Prop where
  new : New w wr
  own : wr.ownsRow w.heap.size 9 1 v k (strs ws)
theorem inC_of {X : List Kn.Cr} (hX : Kn.Ok X) (hl : X.length ≤ 16) {k : Nat} (hk : k < X.length) : Tx.InC (Kn.cr X k) := by
  have key : ∀ s, s < 4 → Tx.InA ((Kn.cr X k).arc s) := fun s hs => by
    have := hX.rng (k, s) ⟨hk, hs⟩
    unfold Kn.at_ Kn.nArcs at this
    unfold Tx.InA
    simp only at this
    omega
  exact ⟨key 0 (by omega), key 1 (by omega), key 2 (by omega), key 3 (by omega)⟩
theorem crs_take {X : List Kn.Cr} {k : Nat} (hk : k < X.length) : (X.map Tx.crT).take (k + 1) = (X.map Tx.crT).take k ++ [Tx.crT (Kn.cr X k)] := by
  rw [List.take_succ_eq_append_getElem (by rw [List.length_map]; exact hk)]
  congr 2
  simp [Kn.cr, List.getD_eq_getElem?_getD, hk]
def GaveT (T : Tx.B) (w : World) (e : Ending) (w' : World) : Prop := e = .returned (.tuple #[.string ⟨T.toArray⟩, .int .i64 0]) ∧ New w w'
def wordsT (X : List Kn.Cr) (L : Nat) : List Tx.B := X.map Tx.crT ++ List.replicate L [79]

set_option maxRecDepth 100000 in
set_option maxHeartbeats 4000000 in
theorem show_any (a : Option Addr) (n c : Nat) (X : List Kn.Cr) (L : Nat) (w : World) (hx : CrsAt w a X) (hn : n = X.length) (hm : Kn.mayB X L = true) :
    Calls Tryz.prog 5 #[.agg #[.slice a n c, .int .i64 L]] w (GaveT (Tx.joinW 32 (wordsT X L)) w) := by
  have HN := Lib.hid hn
  have HX := Lib.hid hx
  have HOK := Lib.hid (mayB_ok hm)
  have hn16 : n ≤ 16 := by have := HOK.out.2; have := HN.out; omega
  obtain ⟨hL1, hL2⟩ : L ≤ 16 ∧ ¬ (n + L = 0) := by
    have h := hm
    unfold Kn.mayB at h
    simp only [Bool.and_eq_true, decide_eq_true_eq, Bool.not_eq_true', Bool.and_eq_false_iff, decide_eq_false_iff_not] at h
    have := HN.out
    omega
  have HM := Lib.hid hm
  have HL2 := Lib.hid hL2
  clear hx hn hm hL2
  obtain ⟨I9, hi9, hz90, hz91, hz92⟩ := info_parts Tryz.info9
  go_enter Tryz.func5, Tryz.ntmps5
  go_wp2_with fail
  refine (may_any a n c X L _ (New.crs ((Fr.refl _ _).alloc _) HX.out) HN.out (by omega) (by omega) (by omega)).mono ?_
  rintro e w1 ⟨rfl, hN⟩
  rw [HM.out]
  have HN1 : Hid (New w w1) := Lib.hid (((Fr.refl _ w).alloc _).trans hN)
  have HB1 := Lib.hid (hN.blk (heap_alloc_new w (.cells #[.slice a n c, .int .i64 (L : Int)] 24)) fun x => x)
  obtain ⟨p1, p2, _, _⟩ := box2_c HB1.out
  clear hN
  go_wp2
  clear p1 p2
  go_loopw [4, 16] (fun s i wr => ∃ k : Nat, k ≤ n ∧ i = .int .i64 k ∧ Hid (StI w1 wr ((X.map Tx.crT).take k) k s)) (fun _ i _ => n - (intOf i).toNat)
  case atStart => exact ⟨0, by omega, rfl, Lib.hid ⟨Fr.refl _ _, ⟨rfl, .inl ⟨rfl, rfl⟩⟩⟩⟩
  case round =>
    obtain ⟨k, hk, rfl, HI⟩ := hrel
    by_cases hkn : k < n
    · have hkX : k < X.length := by have := HN.out; omega
      obtain ⟨g, og, rfl, d1⟩ := (New.crs (HN1.out.trans HI.out.new) HX.out).at hkX
      obtain ⟨x, HXk⟩ : ∃ x, Hid (x = Kn.cr X k) := ⟨_, Lib.hid rfl⟩
      have hinc := inC_of HOK.out.1 HOK.out.2 hkX
      rw [← HXk.out] at d1 hinc
      have HIC := Lib.hid hinc
      obtain ⟨xa, xb, xc, xd, xp⟩ := x
      obtain ⟨e1, e2, e3, e4, e5⟩ := d1
      simp only at e1 e2 e3 e4 e5
      have i1 : (0 : Int) ≤ (k : Int) := by omega
      have i2 : (k : Int) < (n : Int) := by omega
      clear hinc
      cases xp
      · go_wp2_with fail
        clear e1 e2 e3 e4 e5
        obtain ⟨w2, HW2⟩ : ∃ w2, w2 = wr.alloc (.cells #[.int .i64 xa, .int .i64 xb, .int .i64 xc, .int .i64 xd, .bool false] 33) := ⟨_, rfl⟩
        obtain ⟨Bc, HBc⟩ : ∃ B, B = wr.heap.size := ⟨_, rfl⟩
        have HBX : Hid (w2.heap[Bc]? = some (.cells #[.int .i64 xa, .int .i64 xb, .int .i64 xc, .int .i64 xd, .bool false] 33 (0, 0))) := Lib.hid (by rw [HW2, HBc]; exact heap_alloc_new _ _)
        have HN2 : Hid (New wr w2) := Lib.hid (by rw [HW2]; exact (Fr.refl _ wr).alloc _)
        rw [← HW2, ← HBc]
        clear HW2 HBc
        obtain ⟨wo, rfl⟩ : ∃ wo, wo = wr := ⟨_, rfl⟩
        go_loopw [8, 22] (fun s i wr => ∃ j : Nat, j ≤ 4 ∧ i = .int .i64 j ∧ Hid (StI w2 wr ((Tx.arcsT ⟨xa, xb, xc, xd, false⟩).take j) j s)) (fun _ i _ => 4 - (intOf i).toNat)
        case atStart => exact ⟨0, by omega, rfl, Lib.hid ⟨Fr.refl _ _, ⟨rfl, .inl ⟨rfl, rfl⟩⟩⟩⟩
        case round =>
          obtain ⟨j, hj, rfl, HJ⟩ := hrel
          by_cases hj4 : j < 4
          · obtain ⟨m, hm, hma, hmt⟩ := arcsT_at HIC.out hj4
            obtain ⟨q1, q2, q3, q4, q5, _⟩ := cr5_c (HJ.out.new.blk HBX.out fun x => x)
            have HMA : Hid (arcI xa xb xc xd j = (m : Int)) := Lib.hid hma.symm
            have HMT := Lib.hid hmt
            have HRG := Lib.hid HJ.out.own
            obtain ⟨a8, c8, rfl, _⟩ := own_shape2 HRG.out
            have j1 : (0 : Int) ≤ (j : Int) := by omega
            have j2 : (j : Int) < 4 := by omega
            clear hma hmt
            go_wp2_with fail
            refine (arc_any xa xb xc xd false j _ hj4).mono ?_
            rintro e w3 ⟨rfl, hF⟩
            rw [HMA.out]
            have HF3 := Lib.hid (HJ.out.new.trans hF)
            have HR3 := Lib.hid (hF.owns HRG.out fun _ _ x => x)
            clear hF q1 q2 q3 q4 q5
            go_wp2_with fail
            refine (itoa_any m hm _).mono ?_
            rintro e w4 ⟨rfl, rfl⟩
            go_wp2_with (at_builtin; refine wpList_append_own _ rfl _ _ 45 rfl w2.heap.size 9 I9 _ 1 16 Tryz.underlying45 hi9 hz90 hz91 hz92 rfl (by decide) _ j _ rfl (World.ownsRow.alloc HR3.out _) ⟨_, 0, none⟩ 1 1 [.string ⟨(Tx.dd m).toArray⟩] rfl rfl (cell_one_new _ _ _) (one_str _) (by unfold maxLen; omega) (by omega) (by have := HF3.out.size; simp; omega) ?_; intro v' w7 hown hgrow _; have HOW := Lib.hid hown; have HGR := Lib.hid hgrow; clear hown hgrow)
            go_roundw
            case rel =>
              refine ⟨j + 1, by omega, by go_num, Lib.hid ⟨(HF3.out.alloc _).grown HGR.out fun k ek => .inr (own_lb HR3.out k ek), ?_⟩⟩
              rw [List.take_succ_eq_append_getElem (by rw [arcsT_len]; exact hj4), strs_snoc, HMT.out]
              exact HOW.out
            case measure => simp [intOf]; omega
          · obtain rfl : j = 4 := by omega
            have hown := HJ.out.own
            rw [List.take_of_length_le (by rw [arcsT_len]; exact Nat.le_refl _)] at hown
            obtain ⟨a8, c8, rfl, _, h9⟩ := own_shape hown
            obtain ⟨g8, rfl, _, _⟩ := h9 (by omega)
            have HJO := Lib.hid hown
            have HNN : Hid (New wo wr) := Lib.hid (HN2.out.trans HJ.out.new)
            have HPO := Lib.hid (HNN.out.owns HI.out.own fun _ _ x => x)
            clear hown h9
            go_wp2_with fail
            refine (join_any g8 c8 4 w2.heap.size (Tx.arcsT ⟨xa, xb, xc, xd, false⟩) 44 _ HJO.out rfl (by omega) (by omega) (fun u hu => by obtain ⟨m, hm, rfl⟩ := Tx.mem_arcsT HIC.out hu; have := (Tx.dd_is hm).len; omega)).mono ?_
            rintro e w5 ⟨rfl, hF⟩
            have HP5 := Lib.hid (hF.owns HPO.out fun _ _ x => x)
            have HN5 := Lib.hid ((HI.out.new.trans HNN.out).trans hF)
            obtain ⟨bj, HBJ⟩ : ∃ bj : ByteArray, Hid (bj = ⟨(Tx.joinW 44 (Tx.arcsT ⟨xa, xb, xc, xd, false⟩)).toArray⟩) := ⟨_, Lib.hid rfl⟩
            rw [← HBJ.out]
            have HCT : Hid ((⟨#[88, 45, 91]⟩ : ByteArray) ++ bj ++ ⟨#[93]⟩ = ⟨(Tx.crT ⟨xa, xb, xc, xd, false⟩).toArray⟩) := Lib.hid (mk_of (by rw [app_mk, app_mk, HBJ.out]; simp [Tx.crT, Tx.headT]))
            obtain ⟨a7, c7, rfl, _⟩ := own_shape2 HP5.out
            have hbs : bj.size ≤ 100 := by
              have h1 := Tx.joinW_len 44 (Tx.arcsT ⟨xa, xb, xc, xd, false⟩) 2 fun u hu => by obtain ⟨m, hm, rfl⟩ := Tx.mem_arcsT HIC.out hu; exact (Tx.dd_is hm).len
              rw [arcsT_len] at h1
              rw [Lib.size_eq, HBJ.out]; simp; omega
            have z1 : (9223372036854775807 < 3 + bj.size) = False := eq_false (by omega)
            have z2 : (9223372036854775807 < 3 + bj.size + 1) = False := eq_false (by omega)
            clear hF
            go_wp2_with (at_builtin; refine wpList_append_own _ rfl _ _ 45 rfl w1.heap.size 9 I9 _ 1 16 Tryz.underlying45 hi9 hz90 hz91 hz92 rfl (by decide) _ k _ rfl (World.ownsRow.alloc HP5.out _) ⟨_, 0, none⟩ 1 1 [.string ((⟨#[88, 45, 91]⟩ : ByteArray) ++ bj ++ ⟨#[93]⟩)] rfl rfl (cell_one_new _ _ _) (one_str _) (by unfold maxLen; omega) (by omega) (by have := HN5.out.size; simp; omega) ?_; intro v' w7 hown hgrow _; have HOW := Lib.hid hown; have HGR := Lib.hid hgrow; clear hown hgrow)
            go_roundw
            case rel =>
              refine ⟨k + 1, by omega, by go_num, Lib.hid ⟨(HN5.out.alloc _).grown HGR.out fun k ek => .inr (own_lb HP5.out k ek), ?_⟩⟩
              rw [crs_take hkX, strs_snoc, ← HXk.out, ← HCT.out]
              exact HOW.out
            case measure => simp [intOf]; omega
      · go_wp2_with fail
        clear e1 e2 e3 e4 e5
        obtain ⟨w2, HW2⟩ : ∃ w2, w2 = wr.alloc (.cells #[.int .i64 xa, .int .i64 xb, .int .i64 xc, .int .i64 xd, .bool true] 33) := ⟨_, rfl⟩
        obtain ⟨Bc, HBc⟩ : ∃ B, B = wr.heap.size := ⟨_, rfl⟩
        have HBX : Hid (w2.heap[Bc]? = some (.cells #[.int .i64 xa, .int .i64 xb, .int .i64 xc, .int .i64 xd, .bool true] 33 (0, 0))) := Lib.hid (by rw [HW2, HBc]; exact heap_alloc_new _ _)
        have HN2 : Hid (New wr w2) := Lib.hid (by rw [HW2]; exact (Fr.refl _ wr).alloc _)
        rw [← HW2, ← HBc]
        clear HW2 HBc
        obtain ⟨wo, rfl⟩ : ∃ wo, wo = wr := ⟨_, rfl⟩
        go_loopw [8, 22] (fun s i wr => ∃ j : Nat, j ≤ 4 ∧ i = .int .i64 j ∧ Hid (StI w2 wr ((Tx.arcsT ⟨xa, xb, xc, xd, true⟩).take j) j s)) (fun _ i _ => 4 - (intOf i).toNat)
        case atStart => exact ⟨0, by omega, rfl, Lib.hid ⟨Fr.refl _ _, ⟨rfl, .inl ⟨rfl, rfl⟩⟩⟩⟩
        case round =>
          obtain ⟨j, hj, rfl, HJ⟩ := hrel
          by_cases hj4 : j < 4
          · obtain ⟨m, hm, hma, hmt⟩ := arcsT_at HIC.out hj4
            obtain ⟨q1, q2, q3, q4, q5, _⟩ := cr5_c (HJ.out.new.blk HBX.out fun x => x)
            have HMA : Hid (arcI xa xb xc xd j = (m : Int)) := Lib.hid hma.symm
            have HMT := Lib.hid hmt
            have HRG := Lib.hid HJ.out.own
            obtain ⟨a8, c8, rfl, _⟩ := own_shape2 HRG.out
            have j1 : (0 : Int) ≤ (j : Int) := by omega
            have j2 : (j : Int) < 4 := by omega
            clear hma hmt
            go_wp2_with fail
            refine (arc_any xa xb xc xd true j _ hj4).mono ?_
            rintro e w3 ⟨rfl, hF⟩
            rw [HMA.out]
            have HF3 := Lib.hid (HJ.out.new.trans hF)
            have HR3 := Lib.hid (hF.owns HRG.out fun _ _ x => x)
            clear hF q1 q2 q3 q4 q5
            go_wp2_with fail
            refine (itoa_any m hm _).mono ?_
            rintro e w4 ⟨rfl, rfl⟩
            go_wp2_with (at_builtin; refine wpList_append_own _ rfl _ _ 45 rfl w2.heap.size 9 I9 _ 1 16 Tryz.underlying45 hi9 hz90 hz91 hz92 rfl (by decide) _ j _ rfl (World.ownsRow.alloc HR3.out _) ⟨_, 0, none⟩ 1 1 [.string ⟨(Tx.dd m).toArray⟩] rfl rfl (cell_one_new _ _ _) (one_str _) (by unfold maxLen; omega) (by omega) (by have := HF3.out.size; simp; omega) ?_; intro v' w7 hown hgrow _; have HOW := Lib.hid hown; have HGR := Lib.hid hgrow; clear hown hgrow)
            go_roundw
            case rel =>
              refine ⟨j + 1, by omega, by go_num, Lib.hid ⟨(HF3.out.alloc _).grown HGR.out fun k ek => .inr (own_lb HR3.out k ek), ?_⟩⟩
              rw [List.take_succ_eq_append_getElem (by rw [arcsT_len]; exact hj4), strs_snoc, HMT.out]
              exact HOW.out
            case measure => simp [intOf]; omega
          · obtain rfl : j = 4 := by omega
            have hown := HJ.out.own
            rw [List.take_of_length_le (by rw [arcsT_len]; exact Nat.le_refl _)] at hown
            obtain ⟨a8, c8, rfl, _, h9⟩ := own_shape hown
            obtain ⟨g8, rfl, _, _⟩ := h9 (by omega)
            have HJO := Lib.hid hown
            have HNN : Hid (New wo wr) := Lib.hid (HN2.out.trans HJ.out.new)
            have HPO := Lib.hid (HNN.out.owns HI.out.own fun _ _ x => x)
            clear hown h9
            go_wp2_with fail
            refine (join_any g8 c8 4 w2.heap.size (Tx.arcsT ⟨xa, xb, xc, xd, true⟩) 44 _ HJO.out rfl (by omega) (by omega) (fun u hu => by obtain ⟨m, hm, rfl⟩ := Tx.mem_arcsT HIC.out hu; have := (Tx.dd_is hm).len; omega)).mono ?_
            rintro e w5 ⟨rfl, hF⟩
            have HP5 := Lib.hid (hF.owns HPO.out fun _ _ x => x)
            have HN5 := Lib.hid ((HI.out.new.trans HNN.out).trans hF)
            obtain ⟨bj, HBJ⟩ : ∃ bj : ByteArray, Hid (bj = ⟨(Tx.joinW 44 (Tx.arcsT ⟨xa, xb, xc, xd, true⟩)).toArray⟩) := ⟨_, Lib.hid rfl⟩
            rw [← HBJ.out]
            have HCT : Hid ((⟨#[88, 43, 91]⟩ : ByteArray) ++ bj ++ ⟨#[93]⟩ = ⟨(Tx.crT ⟨xa, xb, xc, xd, true⟩).toArray⟩) := Lib.hid (mk_of (by rw [app_mk, app_mk, HBJ.out]; simp [Tx.crT, Tx.headT]))
            obtain ⟨a7, c7, rfl, _⟩ := own_shape2 HP5.out
            have hbs : bj.size ≤ 100 := by
              have h1 := Tx.joinW_len 44 (Tx.arcsT ⟨xa, xb, xc, xd, true⟩) 2 fun u hu => by obtain ⟨m, hm, rfl⟩ := Tx.mem_arcsT HIC.out hu; exact (Tx.dd_is hm).len
              rw [arcsT_len] at h1
              rw [Lib.size_eq, HBJ.out]; simp; omega
            have z1 : (9223372036854775807 < 3 + bj.size) = False := eq_false (by omega)
            have z2 : (9223372036854775807 < 3 + bj.size + 1) = False := eq_false (by omega)
            clear hF
            go_wp2_with (at_builtin; refine wpList_append_own _ rfl _ _ 45 rfl w1.heap.size 9 I9 _ 1 16 Tryz.underlying45 hi9 hz90 hz91 hz92 rfl (by decide) _ k _ rfl (World.ownsRow.alloc HP5.out _) ⟨_, 0, none⟩ 1 1 [.string ((⟨#[88, 43, 91]⟩ : ByteArray) ++ bj ++ ⟨#[93]⟩)] rfl rfl (cell_one_new _ _ _) (one_str _) (by unfold maxLen; omega) (by omega) (by have := HN5.out.size; simp; omega) ?_; intro v' w7 hown hgrow _; have HOW := Lib.hid hown; have HGR := Lib.hid hgrow; clear hown hgrow)
            go_roundw
            case rel =>
              refine ⟨k + 1, by omega, by go_num, Lib.hid ⟨(HN5.out.alloc _).grown HGR.out fun k ek => .inr (own_lb HP5.out k ek), ?_⟩⟩
              rw [crs_take hkX, strs_snoc, ← HXk.out, ← HCT.out]
              exact HOW.out
            case measure => simp [intOf]; omega
    · obtain rfl : k = n := by omega
      obtain ⟨p1, p2, _, _⟩ := box2_c (HI.out.new.blk HB1.out fun x => x)
      have HI0 : Hid (StI w1 wr (wordsT X 0) (k + 0) u4) := Lib.hid (by
        have h := HI.out
        rw [List.take_of_length_le (by rw [List.length_map, HN.out]; exact Nat.le_refl _)] at h
        unfold wordsT
        rw [List.replicate_zero, List.append_nil]
        exact h)
      go_wp2
      clear p1 p2
      go_loopw [4, 44] (fun s i wr => ∃ j : Nat, j ≤ L ∧ i = .int .i64 j ∧ Hid (StI w1 wr (wordsT X j) (k + j) s)) (fun _ i _ => L - (intOf i).toNat)
      case atStart => exact ⟨0, by omega, rfl, HI0⟩
      case round =>
        obtain ⟨j, hj, rfl, HJ⟩ := hrel
        by_cases hjL : j < L
        · have j1 : (0 : Int) ≤ (j : Int) := by omega
          have j2 : (j : Int) < (L : Int) := by omega
          have HRG := Lib.hid HJ.out.own
          obtain ⟨a8, c8, rfl, _⟩ := own_shape2 HRG.out
          go_wp2_with (at_builtin; refine wpList_append_own _ rfl _ _ 45 rfl w1.heap.size 9 I9 _ 1 16 Tryz.underlying45 hi9 hz90 hz91 hz92 rfl (by decide) _ (k + j) _ rfl (World.ownsRow.alloc HRG.out _) ⟨_, 0, none⟩ 1 1 [.string ⟨#[79]⟩] rfl rfl (cell_one_new _ _ _) (one_str _) (by unfold maxLen; omega) (by omega) (by have := HJ.out.new.size; simp; omega) ?_; intro v' w7 hown hgrow _; have HOW := Lib.hid hown; have HGR := Lib.hid hgrow; clear hown hgrow)
          go_roundw
          case rel =>
            refine ⟨j + 1, by omega, by go_num, Lib.hid ⟨(HJ.out.new.alloc _).grown HGR.out fun k ek => .inr (own_lb HRG.out k ek), ?_⟩⟩
            have e : wordsT X (j + 1) = wordsT X j ++ [[79]] := by unfold wordsT; rw [List.replicate_succ', List.append_assoc]
            rw [e, strs_snoc]
            exact HOW.out
          case measure => simp [intOf]; omega
        · obtain rfl : j = L := by omega
          have hkj : 0 < k + j := by have := HL2.out; omega
          have hwl : (wordsT X j).length = k + j := by unfold wordsT; rw [List.length_append, List.length_map, List.length_replicate, HN.out]
          have hown := HJ.out.own
          obtain ⟨a8, c8, rfl, _, h9⟩ := own_shape hown
          obtain ⟨g8, rfl, _, _⟩ := h9 hkj
          have HJO := Lib.hid hown
          clear hown h9
          go_wp2_with fail
          refine (join_any g8 c8 (k + j) w1.heap.size (wordsT X j) 32 _ HJO.out hwl.symm hkj (by omega) (fun u hu => by
            unfold wordsT at hu
            rw [List.mem_append, List.mem_map, List.mem_replicate] at hu
            rcases hu with ⟨x, hx, rfl⟩ | ⟨_, rfl⟩
            · obtain ⟨i, hi, he⟩ := List.getElem_of_mem hx
              have := inC_of HOK.out.1 HOK.out.2 hi
              have e : Kn.cr X i = x := by simp [Kn.cr, List.getD_eq_getElem?_getD, hi, he]
              rw [e] at this
              have := Tx.crT_len this
              omega
            · simp)).mono ?_
          rintro e w5 ⟨rfl, hF⟩
          have HF5 := Lib.hid ((HN1.out.trans HJ.out.new).trans hF)
          clear hF
          go_wp2
          go_ret2
          exact ⟨rfl, HF5.out⟩
end Go.Proofs.YtgjmjbgicfkojaaGreatDoor
