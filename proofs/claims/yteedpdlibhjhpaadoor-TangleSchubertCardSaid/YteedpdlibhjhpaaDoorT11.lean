/- Walks: first, check. -/
import Derived.Test.YteedpdlibhjhpaaDoorT9
/- Walks: first, check. -/
namespace Go.Proofs.YteedpdlibhjhpaaDoor
open Go.RowKit

set_option maxRecDepth 100000 in
theorem first_row (mt : Nat) (cs : Array Value) (hc : cs = #[.bool false, .int .i64 0, .int .i64 0, .int .i64 1, .bool false, .int .i64 0, .int .i64 0, .int .i64 0, .bool false, .int .i64 0, .int .i64 0, .int .i64 3, .bool false, .int .i64 0, .int .i64 0, .int .i64 2, .slice none 0 0, .map (some mt), .int .i64 0]) :
    ∀ i, i < 19 → cs[i]? = some (tgF Kn.Tg.first (.slice none 0 0) mt i) := by
  intro i hi
  subst hc
  match i, hi with
  | 0, _ => rfl
  | 1, _ => rfl
  | 2, _ => rfl
  | 3, _ => rfl
  | 4, _ => rfl
  | 5, _ => rfl
  | 6, _ => rfl
  | 7, _ => rfl
  | 8, _ => rfl
  | 9, _ => rfl
  | 10, _ => rfl
  | 11, _ => rfl
  | 12, _ => rfl
  | 13, _ => rfl
  | 14, _ => rfl
  | 15, _ => rfl
  | 16, _ => rfl
  | 17, _ => rfl
  | 18, _ => rfl
  | _ + 19, h => exact absurd h (by omega)
set_option maxRecDepth 100000 in
set_option maxHeartbeats 2000000 in
theorem first_any (w : World) : Calls Tryd.prog 14 #[] w fun e w' => ∃ b mt, e = .returned (.pointer (some ⟨b, 0, none⟩)) ∧ TgAt w.heap.size w' b mt 0 (.slice none 0 0) Kn.Tg.first ∧ New w w' := by
  have hmm := @run_makeMap Tryd.prog
  go_enter Tryd.func14, Tryd.ntmps14
  go_wp2_with fail
  go_ret
  refine ⟨_, w.heap.size, rfl, ⟨⟨_, by rw [← World.size_alloc w (.map #[] 0)]; exact heap_alloc_new _ _, rfl, first_row _ _ rfl⟩, World.ownsRow_nil _ _ _ _, ((TieMap.made w).fr ((Fr.refl (fun _ => False) _).alloc _) fun x => x), rfl, rfl, by simp, Nat.le_refl _⟩, ((Fr.refl _ w).alloc _).alloc _⟩
set_option maxHeartbeats 1000000 in
theorem check_any (base : Nat) (v : Value) (l : List Nat) (w : World) (h : w.ownsRow base 3 1 v l.length (nums l)) (hl : l.length % 2 = 1) (hl' : l.length ≤ 1000) (hs : l.sum ≤ 16) :
    Calls Tryd.prog 13 #[v] w fun e w' => e = .returned (.int .i64 0) ∧ w' = w := by
  obtain ⟨n, hn⟩ : ∃ n, n = l.length := ⟨_, rfl⟩
  obtain ⟨a, c, rfl, _, _⟩ := own_shape h
  have H := Lib.hid h
  have HN := Lib.hid hn
  rw [← hn] at hl hl' ⊢
  have HS := Lib.hid hs
  clear h hn hs
  go_enter Tryd.func13, Tryd.ntmps13
  go_wp2
  go_loopw [3, 8] (fun s i wr => ∃ k : Nat, k ≤ n ∧ i = .int .i64 k ∧ s = .int .i64 ((l.take k).sum : Nat) ∧ Hid (wr = w)) (fun _ i _ => n - (intOf i).toNat)
  case atStart => exact ⟨0, by omega, rfl, by simp, Lib.hid rfl⟩
  case round =>
    obtain ⟨k, hk, rfl, rfl, HW⟩ := hrel
    by_cases hlt : k < n
    · have hkl : k < l.length := by have := HN.out; omega
      obtain ⟨g, c', e, hc, _⟩ := nums_cell H.out hkl
      rw [← HN.out] at e
      cases e
      have h1 := sum_take hkl
      have h2 := sum_take_le l k
      have h3 := le_sum hkl
      have h4 := HS.out
      obtain ⟨x, HX⟩ : ∃ x, Hid (x = l.getD k 0) := ⟨_, Lib.hid rfl⟩
      obtain ⟨y, HY⟩ : ∃ y, Hid (y = (l.take k).sum) := ⟨_, Lib.hid rfl⟩
      rw [← HX.out] at hc h1 h3
      rw [← HY.out] at h1 h2 ⊢
      have H1 := Lib.hid h1
      have x1 : (x : Int) ≤ 16 := by omega
      have x0 : (0 : Int) ≤ (x : Int) := by omega
      have xn : ¬ (x : Int) < -16 := by omega
      have xm : ¬ (16 : Int) < (x : Int) := by omega
      have y1 : (y : Int) ≤ 16 := by omega
      clear h1 h2 h3 h4
      have i1 : (0 : Int) ≤ (k : Int) := by omega
      have i2 : (k : Int) < (n : Int) := by omega
      rw [← HW.out] at hc
      go_wp2
      go_roundw
      case rel => exact ⟨k + 1, by omega, by go_num, by rw [H1.out]; go_num, HW⟩
      case measure => simp [intOf]; omega
    · obtain rfl : n = k := by omega
      have HE : Hid (l.take n = l) := Lib.hid (List.take_of_length_le (by have := HN.out; omega))
      rw [HE.out]
      have h16 : ¬ (16 : Int) < (l.sum : Nat) := by have := HS.out; omega
      have hm2 : (n : Int).tmod 2 = 1 := by rw [Int.tmod_eq_emod_of_nonneg (by omega)]; omega
      go_wp2
      go_ret
      exact ⟨rfl, HW.out⟩
end Go.Proofs.YteedpdlibhjhpaaDoor

/- Walks: Link. -/
namespace Go.Proofs.YteedpdlibhjhpaaDoor
open Go.RowKit

theorem twist_ok {t : Kn.Tg} (h : EnsOk t) (hl : t.ends.length = 4) (hp : t.places.length = 4 * t.many) (hm : t.many < 16) (b a : Bool) : EnsOk (t.twist b a) ∧ (t.twist b a).many = t.many + 1 := by
  have h0 : Kn.old0 b < 4 := by cases b <;> decide
  have h1 : Kn.tied1 b < 4 := by cases b <;> decide
  obtain ⟨e1, e2⟩ := place_many t a hp
  have gl : ∀ (t : Kn.Tg) (k : Nat) (c : Kn.Pl), t.ends.length = 4 → (t.glue k c).ends.length = 4 := fun t k c h => by
    unfold Kn.Tg.glue; split
    · exact h
    · simp [h]
  have l0 : (t.place a).ends.length = 4 := hl
  have l1 := gl _ (Kn.old0 b) (t.many, 0) l0
  have l2 := gl _ 3 (t.many, Kn.tied1 b) l1
  have s1 := (EnsOk.place h a).glue l0 h0 (c := (t.many, 0)) ⟨by omega, by omega⟩
  have s2 := s1.glue l1 (k := 3) (by omega) (c := (t.many, Kn.tied1 b)) ⟨by omega, h1⟩
  have s3 := s2.setE l2 h0 (c := (t.many, Kn.old0 b)) ⟨by omega, h0⟩
  have l3 : (((t.place a).glue (Kn.old0 b) (t.many, 0)).glue 3 (t.many, Kn.tied1 b) |>.setE (Kn.old0 b) ⟨true, (t.many, Kn.old0 b), 0⟩).ends.length = 4 := by
    unfold Kn.Tg.setE; simp [l2]
  refine ⟨s3.setE l3 (k := 3) (by omega) (c := (t.many, 3)) ⟨by omega, by omega⟩, ?_⟩
  show (((t.place a).glue (Kn.old0 b) (t.many, 0)).glue 3 (t.many, Kn.tied1 b)).many = _
  rw [glue_many, glue_many, e1]
theorem first_ok : EnsOk Kn.Tg.first := by
  intro k hk
  match k, hk with
  | 0, _ => exact ⟨(fun h => by cases h), fun _ => (by decide : (1 : Nat) < 4)⟩
  | 1, _ => exact ⟨(fun h => by cases h), fun _ => (by decide : (0 : Nat) < 4)⟩
  | 2, _ => exact ⟨(fun h => by cases h), fun _ => (by decide : (3 : Nat) < 4)⟩
  | 3, _ => exact ⟨(fun h => by cases h), fun _ => (by decide : (2 : Nat) < 4)⟩
theorem join_ok {t : Kn.Tg} (h : EnsOk t) (hl : t.ends.length = 4) {a b : Nat} (ha : a < 4) (hb : b < 4) (hc : (Kn.en t.ends a).c = true) : EnsOk (t.join a b) ∧ (t.join a b).many = t.many := by
  unfold Kn.Tg.join
  simp only [hc, if_true]
  exact ⟨h.glue hl hb ((h a ha).1 hc), glue_many _ _ _⟩
theorem link_parts {l : List Nat} {X : List Kn.Cr} {L : Nat} (h : Kn.linkN l = some (X, L)) : ∃ t, Kn.linkG l 0 Kn.Tg.first = t ∧ (Kn.en t.ends 0).c = true ∧ (Kn.en (t.join 0 1).ends 2).c = true ∧ 0 < ((t.join 0 1).join 2 3).many ∧ ((t.join 0 1).join 2 3).loops ≤ 1000 ∧ ((t.join 0 1).join 2 3).diagramC = some (X, L) := by
  refine ⟨_, rfl, ?_⟩
  unfold Kn.linkN at h
  simp only at h
  split at h
  · rename_i hc
    rw [Bool.and_eq_true, Bool.and_eq_true, Bool.and_eq_true] at hc
    exact ⟨hc.1.1.1, hc.1.1.2, of_decide_eq_true hc.1.2, of_decide_eq_true hc.2, h⟩
  · cases h
set_option maxRecDepth 100000 in
set_option maxHeartbeats 4000000 in
theorem link_any (base : Nat) (v : Value) (l : List Nat) (w : World) (h : w.ownsRow base 3 1 v l.length (nums l)) (hl : l.length % 2 = 1) (hl' : l.length ≤ 1000) (hs : l.sum ≤ 15) (X : List Kn.Cr) (L : Nat) (hX : Kn.linkN l = some (X, L)) :
    Calls Tryd.prog 8 #[v] w fun e w' => ∃ sv, e = .returned (.tuple #[.agg #[sv, .int .i64 (L : Nat)], .int .i64 0]) ∧ w'.ownsRow w.heap.size 78 5 sv X.length (crCells X) ∧ New w w' := by
  obtain ⟨T, hT, j0, j1, j2, j3, hD⟩ := link_parts hX
  obtain ⟨n, hn⟩ : ∃ n, n = l.length := ⟨_, rfl⟩
  obtain ⟨a, c, rfl, _, _⟩ := own_shape h
  have H := Lib.hid h
  have HN := Lib.hid hn
  have HT := Lib.hid hT
  have HJ0 := Lib.hid j0
  have HJ1 := Lib.hid j1
  have HJ2 := Lib.hid j2
  have HJ3 := Lib.hid j3
  have HD := Lib.hid hD
  have HLL := Lib.hid hl
  rw [← hn] at hl' ⊢
  have HS := Lib.hid hs
  clear h hn hs hT j0 j1 j2 j3 hD hX hl
  go_enter Tryd.func8, Tryd.ntmps8
  go_wp2_with fail
  obtain ⟨w0, HW0⟩ : ∃ z, Hid (z = w.alloc (.cells #[.slice none 0 0, .int .i64 0] 32)) := ⟨_, Lib.hid rfl⟩
  obtain ⟨rb, HRB⟩ : ∃ z, Hid (z = w.heap.size) := ⟨_, Lib.hid rfl⟩
  have HN0 : Hid (New w w0) := Lib.hid (by rw [HW0.out]; exact (Fr.refl _ _).alloc _)
  have HRB0 : Hid (w0.heap[rb]? = some (.cells #[.slice none 0 0, .int .i64 0] 32 (0, 0))) := Lib.hid (by rw [HW0.out, HRB.out]; exact heap_alloc_new w _)
  rw [← HW0.out, ← HRB.out]
  have HO0 := Lib.hid (HN0.out.owns H.out fun _ _ x => x)
  have hck := check_any base _ l w0 HO0.out HLL.out (by rw [← HN.out]; exact hl') (by have := HS.out; omega)
  rw [← HN.out] at hck
  refine hck.mono ?_
  rintro e w1 ⟨rfl, rfl⟩
  clear hck
  go_wp2_with fail
  refine (first_any w1).mono ?_
  rintro e w2 ⟨b, mt, rfl, hTg, hN2⟩
  have HTG := Lib.hid hTg
  have HN2 := Lib.hid hN2
  clear hTg hN2
  go_wp2_with fail
  go_loopw [17] (fun cv wr => ∃ (k : Nat) (v : Value) (t : Kn.Tg), k ≤ n ∧ cv = .int .i64 k ∧ Hid (TgAt w1.heap.size wr b mt (4 * (l.take k).sum) v t ∧ EnsOk t ∧ t.many = (l.take k).sum) ∧ Hid (Kn.linkG (l.drop k) k t = T) ∧ Hid (New w1 wr)) (fun cv _ => n - (intOf cv).toNat)
  case atStart => exact ⟨0, _, _, by omega, rfl, Lib.hid ⟨HTG.out, first_ok, rfl⟩, HT, HN2⟩
  case round =>
    obtain ⟨k, v, t, hk, rfl, HTk, HLk, HFk⟩ := hrel
    by_cases hlt : k < n
    · have hkl : k < l.length := by have := HN.out; omega
      have HOk := Lib.hid (HFk.out.owns HO0.out fun _ _ x => x)
      obtain ⟨g, c', e, hc, _⟩ := nums_cell HOk.out hkl
      rw [← HN.out] at e
      cases e
      have h1 := sum_take hkl
      have h2 := sum_take_le l (k + 1)
      have h4 := HS.out
      have hd := HLk.out
      rw [List.drop_eq_getElem_cons hkl, Kn.linkG] at hd
      obtain ⟨x, HX⟩ : ∃ x, Hid (x = l.getD k 0) := ⟨_, Lib.hid rfl⟩
      obtain ⟨y, HY⟩ : ∃ y, Hid (y = (l.take k).sum) := ⟨_, Lib.hid rfl⟩
      have hgx : l[k] = x := by rw [HX.out, List.getD_eq_getElem?_getD, List.getElem?_eq_getElem hkl]; rfl
      rw [hgx] at hd
      have HDk := Lib.hid hd
      rw [← HX.out] at hc h1
      rw [← HY.out] at h1
      have H1 := Lib.hid h1
      have x1 : x + y ≤ 15 := by omega
      have x0 : (0 : Int) ≤ (x : Int) := by omega
      have x2 : (x : Int) ≤ 15 := by omega
      clear h1 h2 h4 hd hgx
      have i1 : (0 : Int) ≤ (k : Int) := by omega
      have i2 : (k : Int) < (n : Int) := by omega
      have HTk : Hid (TgAt w1.heap.size wr b mt (4 * y) v t ∧ EnsOk t ∧ t.many = y) := Lib.hid (by rw [HY.out]; exact HTk.out)
      go_wp2_with fail
      rw [show max (x : Int) (-(x : Int)) = (x : Int) by omega]
      obtain ⟨wo, rfl⟩ : ∃ wo, wo = wr := ⟨_, rfl⟩
      go_loopw [26] (fun jv wr => ∃ (j : Nat) (v : Value), j ≤ x ∧ jv = .int .i64 j ∧ Hid (TgAt w1.heap.size wr b mt (4 * y + 4 * j) v (Kn.twn (k % 2 == 1) t j) ∧ EnsOk (Kn.twn (k % 2 == 1) t j) ∧ (Kn.twn (k % 2 == 1) t j).many = y + j) ∧ Hid (New w1 wr)) (fun jv _ => x - (intOf jv).toNat)
      case atStart => exact ⟨0, v, by omega, rfl, HTk, HFk⟩
      case round =>
        obtain ⟨j, v, hj, rfl, HTj, HFj⟩ := hrel
        by_cases hltj : j < x
        · have x3 : (0 : Int) < (x : Int) := by omega
          have e1 : ((k : Int) % 2 == 1) = (k % 2 == 1) := by rw [Bool.eq_iff_iff, beq_iff_eq, beq_iff_eq]; omega
          have e2 : decide (0 < x) = true := by rw [decide_eq_true_eq]; omega
          go_wp2_with fail
          refine (twist_any w1.heap.size b mt (4 * y + 4 * j) v _ _ _ wr HTj.out.1 (by omega) HTj.out.2.1 (by rw [HTj.out.2.2]; omega)).mono ?_
          rintro e w5 ⟨rfl, ⟨v5, hT5⟩, hF5⟩
          have HT5 := Lib.hid hT5
          have HF5 := Lib.hid hF5
          clear hT5 hF5 e1 e2
          have hok := twist_ok HTj.out.2.1 HTj.out.1.len HTj.out.1.plen (by rw [HTj.out.2.2]; omega) (k % 2 == 1) true
          have HOK := Lib.hid hok
          clear hok
          go_wp2
          go_roundw
          case rel => exact ⟨j + 1, v5, by omega, by go_num, Lib.hid ⟨HT5.out, HOK.out.1, by have := HOK.out.2; rw [HTj.out.2.2] at this; exact this⟩, Lib.hid (HFj.out.next HF5.out fun i hi => .inr hi)⟩
          case measure => simp [intOf]; omega
        · obtain rfl : x = j := by omega
          go_wp2
          go_roundw
          case rel => exact ⟨k + 1, v, _, by omega, by go_num, Lib.hid (by rw [H1.out, Nat.mul_add]; exact HTj.out), HDk, HFj⟩
          case measure => simp [intOf]; omega
    · obtain rfl : n = k := by omega
      have hlen := HN.out
      have htk : (l.take n).sum = l.sum := by rw [List.take_of_length_le (by omega)]
      have htT : t = T := by
        have h1 := HLk.out
        rw [List.drop_eq_nil_of_le (by omega), Kn.linkG] at h1
        exact h1
      subst htT
      have HTk : Hid (TgAt w1.heap.size wr b mt (4 * l.sum) v t ∧ EnsOk t ∧ t.many = l.sum) := Lib.hid (by rw [← htk]; exact HTk.out)
      obtain ⟨S, HSS⟩ : ∃ z, Hid (z = l.sum) := ⟨_, Lib.hid rfl⟩
      rw [← HSS.out] at HTk
      have hS15 : S ≤ 15 := by rw [HSS.out]; exact HS.out
      have CC := Lib.hid (join_any w1.heap.size b mt (4 * S) 0 1 v t wr HTk.out.1 (by omega) HTk.out.2.1 (by omega) (by omega) HJ0.out)
      have HK1 := Lib.hid (join_ok HTk.out.2.1 HTk.out.1.len (a := 0) (b := 1) (by omega) (by omega) HJ0.out)
      clear hlen htk HLk
      go_wp2_with fail
      refine CC.out.mono ?_
      rintro e w5 ⟨rfl, hT5, hF5⟩
      have HT5 := Lib.hid hT5
      have HF5 := Lib.hid (HFk.out.next hF5 fun i hi => .inr hi)
      clear hT5 hF5 CC
      have CC := Lib.hid (join_any w1.heap.size b mt (4 * S + 2) 2 3 v (t.join 0 1) w5 HT5.out (by omega) HK1.out.1 (by omega) (by omega) HJ1.out)
      have HK2 := Lib.hid (join_ok HK1.out.1 HT5.out.len (a := 2) (b := 3) (by omega) (by omega) HJ1.out)
      go_wp2_with fail
      refine CC.out.mono ?_
      rintro e w6 ⟨rfl, hT6, hF6⟩
      have HT6 := Lib.hid hT6
      have HF6 := Lib.hid (HF5.out.next hF6 fun i hi => .inr hi)
      clear hT6 hF6 CC
      have hmany : ((t.join 0 1).join 2 3).many = S := by rw [HK2.out.2, HK1.out.2, HTk.out.2.2]
      have CC := Lib.hid (diagram_any w1.heap.size b mt (4 * S + 2 + 2) S v ((t.join 0 1).join 2 3) w6 HT6.out hmany.symm (by rw [← hmany]; exact HJ2.out) (by omega) HJ3.out X L HD.out)
      go_wp2_with fail
      refine CC.out.mono ?_
      rintro e w7 ⟨sv, rfl, hO7, hF7⟩
      have HO7 := Lib.hid hO7
      have HF7 := Lib.hid (HF6.out.trans hF7)
      have hb7 := HF7.out.blk HRB0.out fun x => x
      obtain ⟨r0, r1⟩ := two_c hb7
      have f0 : w7.frozen? ⟨rb, 0, none⟩ = false := by simp [World.frozen?, hb7]
      have f1 : w7.frozen? ⟨rb, 1, none⟩ = false := by simp [World.frozen?, hb7]
      obtain ⟨sa, sc, rfl, _⟩ := own_shape2 hO7
      clear hO7 hF7 CC hb7
      go_wp2_with fail
      have HF9 : Hid (Fr (fun k => k = rb) w7 ((w7.setCell ⟨rb, 0, none⟩ (Value.slice sa X.length sc)).setCell ⟨rb, 1, none⟩ (.int .i64 (L : Nat)))) := Lib.hid (((Fr.refl (fun k => k = rb) w7).setCell (a := ⟨rb, 0, none⟩) (.inl rfl) _).setCell (a := ⟨rb, 1, none⟩) (.inl rfl) _)
      have hb9 := HF7.out.blk HRB0.out fun x => x
      obtain ⟨e0, e1⟩ := two_c (box2_set (box2_set hb9 (Value.slice sa X.length sc)).1 (.int .i64 (L : Nat))).2
      have hsz : w.heap.size ≤ w6.heap.size := Nat.le_trans HN0.out.size HF6.out.size
      refine bodyPost_ret (v := .tuple #[.agg #[Value.slice sa X.length sc, .int .i64 (L : Nat)], .int .i64 0]) (by simp [results, Tryd.results8, go_sem, e0, e1]) rfl ⟨_, rfl, ?_, ?_⟩
      · exact HF9.out.owns (own_base HO7.out hsz) fun k hk e => blk_not_own hb9 HO7.out (by decide) (by rw [hk, e])
      · exact (HN0.out.trans HF7.out).next HF9.out fun k hk => .inr (by rw [hk, HRB.out]; exact Nat.le_refl _)
end Go.Proofs.YteedpdlibhjhpaaDoor
