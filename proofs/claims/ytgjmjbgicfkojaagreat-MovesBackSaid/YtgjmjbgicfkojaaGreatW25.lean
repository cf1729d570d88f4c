/- Walks: Form. -/
import Derived.Test.YtgjmjbgicfkojaaGreatTK
import Derived.Test.YtgjmjbgicfkojaaGreatW27
namespace Go.Proofs.YtgjmjbgicfkojaaGreat
open Go.RowKit

def GaveForm (X : List Kn.Cr) (L : Int) (w : World) (e : Ending) (w' : World) : Prop := ∃ sc, e = .returned (.agg #[sc, .int .i64 L]) ∧ w'.ownsRow w.heap.size 75 5 sc X.length (crCells X) ∧ New w w'

theorem see_as (b c : Nat) (X : List Kn.Cr) (L : Int) (w : World) (h : ShAt w b X L) (hX : Kn.Ok X) (hl : X.length ≤ 16) (hc : c < X.length) {y : Kn.Vw} (hy : y = Kn.see X c) :
    Calls Tryz.prog 40 #[.pointer (some ⟨b, 0, none⟩), .int .i64 c] w (GaveVw y w) := hy ▸ see_any b c X L w h hX hl hc
theorem FB.step {wo wr : World} {B : Nat} {X : List Kn.Cr} {l : List Nat} {j k : Nat} {b : TV} (h : FB wo wr B X l j b) (he : b.2 = bestK X l k) : FB wo wr B X l k b := ⟨h.new, h.lb, h.box, h.at_, he⟩
theorem one_sl2 (a : Option Addr) (n c : Nat) (a' : Option Addr) (n' c' : Nat) : ∀ u ∈ [Value.slice a n c, .slice a' n' c'], u.oneCell' = true := by
  intro u hu
  simp only [List.mem_cons, List.not_mem_nil, or_false] at hu
  rcases hu with rfl | rfl <;> rfl

set_option maxRecDepth 100000 in
set_option maxHeartbeats 8000000 in
theorem form_any (b : Nat) (X : List Kn.Cr) (L : Int) (w : World) (h : ShAt w b X L) (hX : Kn.Ok X) (hl : X.length ≤ 16) (hn0 : X ≠ []) :
    Calls Tryz.prog 26 #[.pointer (some ⟨b, 0, none⟩)] w (GaveForm (Kn.formL X) L w) := by
  have hmm := @run_makeMap Tryz.prog; have HS00 := Lib.hid h; have HX := Lib.hid hX
  obtain ⟨np, HNP⟩ : ∃ np, Hid (np = (Kn.piecesL X).length) := ⟨_, Lib.hid rfl⟩
  have hnp : np ≤ 16 := by have := pieces_few X hX; have := HNP.out; omega
  have HPM : Hid (∀ l ∈ Kn.piecesL X, l ≠ [] ∧ l.length ≤ 16 ∧ ∀ x ∈ l, x < X.length) := Lib.hid fun l hlp => by
    have hp := hX.pieces_is l hlp
    exact ⟨hp.ne, by have := hp.le; omega, fun x hx => (hp.con x hx).1⟩
  clear h hX; obtain ⟨i0, hi, hz0, hz1, hz2⟩ := info_parts Tryz.info94
  go_enter Tryz.func26, Tryz.ntmps26
  go_wp2_with fail
  obtain ⟨wa, HWA⟩ : ∃ wa, Hid (wa = w.alloc (.cells #[.slice none 0 0, .int .i64 0] 24)) := ⟨_, Lib.hid rfl⟩
  rw [← HWA.out]; have HNA : Hid (New w wa) := Lib.hid (by rw [HWA.out]; exact (Fr.refl _ w).alloc _); have HRES : Hid (wa.heap[w.heap.size]? = some (.cells #[.slice none 0 0, .int .i64 0] 24 (0, 0))) := Lib.hid (by rw [HWA.out]; exact heap_alloc_new _ _); have HS := Lib.hid (New.shAt HNA.out HS00.out)
  go_wp2_with (go_at_call 33; refine (pieces_any b X L _ (HS.out) HX.out hl).mono ?_; rintro e w2 ⟨pv, rfl, hrp, hE⟩; obtain ⟨ap, cp, rfl⟩ := hrp.sl; rw [← HNP.out]; have HRP := Lib.hid hrp; have HE2 := Lib.hid hE; clear hrp hE)
  have HA0 : Hid (FA wa w2 X 0 (.slice ap np cp) (.slice none 0 0) []) := Lib.hid ⟨HE2.out, by have := HRP.out.base0; rwa [← HNP.out] at this, ⟨rfl, .inl ⟨rfl, rfl⟩⟩, (fun t ht => by cases ht), rfl⟩
  go_loopw [3, 21] (fun v i wr => ∃ (q : Nat) (ts : List TV), q ≤ np ∧ i = .int .i64 q ∧ Hid (FA wa wr X q (.slice ap np cp) v ts)) (fun _ i _ => np - (intOf i).toNat)
  case atStart => exact ⟨0, [], by omega, rfl, HA0⟩
  case round =>
    obtain ⟨q, ts, hq, rfl, HA⟩ := hrel
    by_cases hqn : q < np
    · have hqp : q < (Kn.piecesL X).length := by have := HNP.out; omega
      obtain ⟨l, HL⟩ : ∃ l, Hid (l = (Kn.piecesL X)[q]) := ⟨_, Lib.hid rfl⟩
      obtain ⟨hlne, hl16, hlx⟩ := HPM.out l (by rw [HL.out]; exact List.getElem_mem hqp); have HLX := Lib.hid hlx; clear hlx; obtain ⟨gp, cp', u, he, hcell, hown⟩ := HA.out.rows.at hqp; rw [← HNP.out] at he
      cases he
      rw [← HL.out] at hown
      obtain ⟨ll, HLL⟩ : ∃ ll, Hid (ll = l.length) := ⟨_, Lib.hid rfl⟩
      have hl0 : 0 < ll := by have := List.length_pos_iff.2 hlne; have := HLL.out; omega
      obtain ⟨gl, cl, hu, hc0⟩ := hown.at (i := 0) (by have := HLL.out; omega)
      have hlc : ll ≤ cl := by obtain ⟨a, c, e, h1, _⟩ := own_shape (show wr.ownsRow 0 3 1 u l.length (nums l) from hown); rw [hu] at e; cases e; have := HLL.out; omega
      rw [← HLL.out] at hu; subst hu
      obtain ⟨x0, HX0⟩ : ∃ x0, Hid (x0 = l[0]'(by have := HLL.out; omega)) := ⟨_, Lib.hid rfl⟩
      rw [← HX0.out] at hc0; have hx0 : x0 < X.length := HLX.out x0 (by rw [HX0.out]; exact List.getElem_mem _); have HOL := Lib.hid hown; have HLN := Lib.hid hlne; rw [← HLL.out] at hl16
      have i1 : (0 : Int) ≤ (q : Int) := by omega
      have i2 : (q : Int) < (np : Int) := by omega
      have i3 : (0 : Int) < (ll : Int) := by omega
      have i4 : (1 : Int) ≤ (ll : Int) := by omega
      have i5 : (ll : Int) ≤ (cl : Int) := by omega
      clear hown hlne; obtain ⟨a9, c9, rfl, _⟩ := own_shape2 HA.out.own
      obtain ⟨m, HM⟩ : ∃ m, Hid (m = ts.length) := ⟨_, Lib.hid rfl⟩
      rw [← HM.out] at HA ⊢
      have hm : m ≤ 16 := by have := HA.out.len (by have := HNP.out; omega); have := HM.out; omega
      obtain ⟨y0, HY0⟩ : ∃ y0, Hid (y0 = Kn.see X x0) := ⟨_, Lib.hid rfl⟩
      obtain ⟨k1, k2⟩ := see_small HX.out hl hx0; rw [← HY0.out] at k1 k2
      obtain ⟨wo, rfl⟩ : ∃ wo, wo = wr := ⟨_, rfl⟩
      have HHead : Hid (bestK X l 0 = Kn.see X x0) := Lib.hid (by
        unfold bestK
        rw [List.take_zero, List.foldl_nil, HX0.out]
        cases l with
        | nil => exact absurd rfl HLN.out
        | cons y ys => rfl)
      by_cases hcl : cl = 1
      all_goals
        go_wp2_with (go_at_call 40; refine (see_as b x0 X L _ (New.shAt HA.out.new HS.out) HX.out hl hx0 HY0.out).mono ?_; rintro e w5 ⟨v5, rfl, ⟨sc, sd, rfl, hoc, hod⟩, hE⟩; obtain ⟨a1, c1, rfl, _⟩ := own_shape2 hoc; obtain ⟨a2, c2, rfl, _⟩ := own_shape2 hod; have HB0 : Hid (FB wo (w5.alloc (.cells #[.slice a1 y0.1.length c1, .slice a2 y0.2.length c2] 94)) w5.heap.size X l 0 ((.slice a1 y0.1.length c1, .slice a2 y0.2.length c2), y0)) := Lib.hid ⟨hE.alloc _, hE.size, heap_alloc_new _ _, VwAt.new (w := w5) ⟨own0 hoc, own0 hod, k1, k2⟩ ((Fr.refl _ w5).alloc _), by rw [HHead.out]; exact HY0.out⟩; clear hoc hod hE)
        obtain ⟨B6, HB6⟩ : ∃ B6, Hid (B6 = w5.heap.size) := ⟨_, Lib.hid rfl⟩
        obtain ⟨w6, HW6⟩ : ∃ w6, Hid (w6 = w5.alloc (.cells #[.slice a1 y0.1.length c1, .slice a2 y0.2.length c2] 94)) := ⟨_, Lib.hid rfl⟩
        rw [← HW6.out, ← HB6.out] at HB0 ⊢
      · obtain rfl : ll = 1 := by omega
        refine wp_loop_rounds 1 ?_
        rw [rounds_succ]
        obtain ⟨bv, HBV⟩ : ∃ bv, Hid (bv = y0) := ⟨_, Lib.hid rfl⟩
        rw [← HBV.out] at HB0 ⊢; have HB := HB0
        obtain ⟨a7, H7⟩ : ∃ a7, Hid (a7 = a1) := ⟨_, Lib.hid rfl⟩
        obtain ⟨c7, H7'⟩ : ∃ c7, Hid (c7 = c1) := ⟨_, Lib.hid rfl⟩
        obtain ⟨a8, H8⟩ : ∃ a8, Hid (a8 = a2) := ⟨_, Lib.hid rfl⟩
        obtain ⟨c8, H8'⟩ : ∃ c8, Hid (c8 = c2) := ⟨_, Lib.hid rfl⟩
        rw [← H7.out, ← H7'.out, ← H8.out, ← H8'.out] at HB ⊢; obtain ⟨g0, g1, _, _⟩ := box2_c HB.out.box; have HOV : Hid (w6.ownsRow wa.heap.size 94 2 (.slice a9 m c9) m (ts.flatMap vcell)) := Lib.hid (by have := HB.out.new.owns HA.out.own fun _ _ x => x; rwa [← HM.out] at this); have HOS : Hid (wa.heap.size ≤ w6.heap.size) := Lib.hid (Nat.le_trans HA.out.new.size HB.out.new.size); have HBE : Hid (bv = Kn.best X ((Kn.piecesL X)[q])) := Lib.hid (by rw [← HL.out, ← bestK_all (l := l) (j := 0) (by have := HLL.out; omega)]; exact HB.out.eq)
        go_wp2_with (at_builtin; refine wpList_append_own _ rfl _ _ 92 rfl wa.heap.size 94 i0 (.agg #[.slice none 0 0, .slice none 0 0]) 2 48 Tryz.underlying92 hi hz0 hz1 hz2 rfl (by decide) _ m (ts.flatMap vcell) rfl (World.ownsRow.alloc HOV.out _) ⟨w6.heap.size, 0, none⟩ 1 1 [.slice a7 bv.1.length c7, .slice a8 bv.2.length c8] rfl rfl (cell_two rfl) (one_sl2 _ _ _ _ _ _) (by unfold maxLen; omega) (by omega) (by have := HOS.out; simp only [World.size_alloc]; omega) ?_; intro v' w7 hown hgrow _; obtain ⟨a13, c13, rfl, _⟩ := own_shape2 hown; have HFA := Lib.hid ((HA.out.nw HB.out.new).push HB.out.at_ hqp HBE.out HM.out hown hgrow); clear hown hgrow)
        go_roundw
        case rel => exact ⟨q + 1, ts ++ [((.slice a7 bv.1.length c7, .slice a8 bv.2.length c8), bv)], by omega, by go_num, HFA⟩
        case measure => simp [intOf]; omega
      · go_loopw [33] (fun i wr => ∃ (j : Nat) (b : TV), j + 1 ≤ ll ∧ i = .int .i64 j ∧ Hid (FB wo wr B6 X l j b)) (fun i _ => ll - (intOf i).toNat)
        case atStart => exact ⟨0, _, by omega, rfl, HB0⟩
        case round =>
          obtain ⟨j, ⟨⟨s1, s2⟩, bv⟩, hj, rfl, HB⟩ := hrel; obtain ⟨a7, c7, a8, c8, he⟩ := HB.out.at_.sl; simp only [Prod.mk.injEq] at he; obtain ⟨rfl, rfl⟩ := he
          by_cases hjl : j + 1 < ll
          · obtain ⟨x, HXx⟩ : ∃ x, Hid (x = l[j + 1]'(by have := HLL.out; omega)) := ⟨_, Lib.hid rfl⟩
            have hxl : x < X.length := HLX.out x (by rw [HXx.out]; exact List.getElem_mem _)
            have hcx : wr.cell? ⟨gl, 1 + j, none⟩ = some (.int .i64 (x : Nat)) := by
              obtain ⟨g', c', e', hc'⟩ := HOL.out.at (i := j + 1) (by have := HLL.out; omega)
              cases e'
              rw [← HXx.out] at hc'; rw [Nat.add_comm]
              exact HB.out.new.cell hc' fun x => x
            obtain ⟨y, HY⟩ : ∃ y, Hid (y = Kn.see X x) := ⟨_, Lib.hid rfl⟩
            obtain ⟨k3, k4⟩ := see_small HX.out hl hxl; rw [← HY.out] at k3 k4
            obtain ⟨cv, HCV⟩ : ∃ cv, Hid (cv = Kn.cmpL y.2 bv.2) := ⟨_, Lib.hid rfl⟩
            have HSU : Hid (bestK X l (j + 1) = if cv < 0 then y else bv) := Lib.hid (by rw [bestK_succ (by have := HLL.out; omega), ← HXx.out, ← HY.out, ← HB.out.eq, ← HCV.out]); obtain ⟨_, _, k5, k6⟩ := HB.out.at_; simp only at k5 k6
            have i6 : (0 : Int) ≤ (j : Int) := by omega
            have i7 : (j : Int) < ((ll - 1 : Nat) : Int) := by omega
            by_cases hcv : cv < 0
            all_goals
              go_wp2_with (first
                | (go_at_call 40; refine (see_as b x X L _ (New.shAt (HA.out.new.trans HB.out.new) HS.out) HX.out hl hxl HY.out).mono ?_; rintro e w8 ⟨v8, rfl, ⟨sc, sd, rfl, hoc, hod⟩, hE⟩; obtain ⟨a5, c5, rfl, _⟩ := own_shape2 hoc; obtain ⟨a6, c6, rfl, _⟩ := own_shape2 hod; have HB9 : Hid (FB wo (w8.alloc (.cells #[.slice a5 y.1.length c5, .slice a6 y.2.length c6] 94)) B6 X l j ((.slice a7 bv.1.length c7, .slice a8 bv.2.length c8), bv)) := Lib.hid ((HB.out.nw hE).nw ((Fr.refl _ w8).alloc _)); have HT9 : Hid (VwAt (w8.alloc (.cells #[.slice a5 y.1.length c5, .slice a6 y.2.length c6] 94)) ((.slice a5 y.1.length c5, .slice a6 y.2.length c6), y)) := Lib.hid (VwAt.new (w := w8) ⟨own0 hoc, own0 hod, k3, k4⟩ ((Fr.refl _ w8).alloc _)); obtain ⟨e0, e1, z0, z1⟩ := box2_c HB9.out.box; obtain ⟨_, e3, _, z3⟩ := box2_c (box2_set HB9.out.box (.slice a5 y.1.length c5)).1; clear hoc hod hE)
                | (go_at_call 41; refine (compare_any _ _ 0 0 y.2.length bv.2.length y.2 bv.2 _ HT9.out.2.1 HB9.out.at_.2.1 rfl rfl k4 k6).mono ?_; rintro e w10 ⟨rfl, rfl⟩; rw [← HCV.out]))
              go_roundw
              case measure => simp [intOf]; omega
              case rel => first
                | exact ⟨j + 1, ((.slice a5 y.1.length c5, .slice a6 y.2.length c6), y), by omega, by go_num, Lib.hid (HB9.out.set HT9.out (by rw [HSU.out, if_pos hcv]))⟩
                | exact ⟨j + 1, ((.slice a7 bv.1.length c7, .slice a8 bv.2.length c8), bv), by omega, by go_num, Lib.hid (HB9.out.step (by rw [HSU.out, if_neg (by omega)]))⟩
          · obtain rfl : ll = j + 1 := by omega
            obtain ⟨g0, g1, z0, z1⟩ := box2_c HB.out.box; have HOV : Hid (wr.ownsRow wa.heap.size 94 2 (.slice a9 m c9) m (ts.flatMap vcell)) := Lib.hid (by have := HB.out.new.owns HA.out.own fun _ _ x => x; rwa [← HM.out] at this); have HOS : Hid (wa.heap.size ≤ wr.heap.size) := Lib.hid (Nat.le_trans HA.out.new.size HB.out.new.size); have HBE : Hid (bv = Kn.best X ((Kn.piecesL X)[q])) := Lib.hid (by rw [← HL.out, ← bestK_all (l := l) (j := j) (by have := HLL.out; omega)]; exact HB.out.eq)
            go_wp2_with (at_builtin; refine wpList_append_own _ rfl _ _ 92 rfl wa.heap.size 94 i0 (.agg #[.slice none 0 0, .slice none 0 0]) 2 48 Tryz.underlying92 hi hz0 hz1 hz2 rfl (by decide) _ m (ts.flatMap vcell) rfl (World.ownsRow.alloc HOV.out _) ⟨wr.heap.size, 0, none⟩ 1 1 [.slice a7 bv.1.length c7, .slice a8 bv.2.length c8] rfl rfl (cell_two rfl) (one_sl2 _ _ _ _ _ _) (by unfold maxLen; omega) (by omega) (by have := HOS.out; simp only [World.size_alloc]; omega) ?_; intro v' w7 hown hgrow _; obtain ⟨a13, c13, rfl, _⟩ := own_shape2 hown; have HFA := Lib.hid ((HA.out.nw HB.out.new).push HB.out.at_ hqp HBE.out HM.out hown hgrow); clear hown hgrow)
            go_roundw
            case rel => exact ⟨q + 1, ts ++ [((.slice a7 bv.1.length c7, .slice a8 bv.2.length c8), bv)], by omega, by go_num, HFA⟩
            case measure => simp [intOf]; omega
    · obtain rfl : q = np := by omega
      have hall : ts.map (·.2) = (Kn.piecesL X).map (Kn.best X) := by
        have := HA.out.eq
        rwa [List.take_of_length_le (by have := HNP.out; omega)] at this
      have hlen : ts.length ≤ 16 := by have := HA.out.len (by have := HNP.out; omega); omega
      have HAL := Lib.hid hall; have HLE := Lib.hid hlen; obtain ⟨a9, c9, rfl, _⟩ := own_shape2 HA.out.own
      obtain ⟨m, HM⟩ : ∃ m, Hid (m = ts.length) := ⟨_, Lib.hid rfl⟩
      have hm : m ≤ 16 := by have := HM.out; omega
      have HOV := Lib.hid HA.out.own; rw [← HM.out] at HOV ⊢; clear hall hlen; have HLO := Lib.hid (ShAt.loops HS.out)
      go_wp2_with (go_at_call 42; refine (sortV_own wa.heap.size _ ts _ (by rw [← HM.out]; exact HOV.out) HA.out.at_ HLE.out).mono ?_; rintro e w7 ⟨rfl, ts', hp, hs, hown, hg⟩; have HP := Lib.hid hp; have HSO := Lib.hid hs; have HOW := Lib.hid hown; have HN7 : Hid (New wa w7) := Lib.hid (HA.out.new.grown hg fun k e => .inr (own_lb HOV.out k e)); have HT7 : Hid (∀ t ∈ ts', VwAt w7 t) := Lib.hid (fun t ht => (HA.out.at_ t (hp.mem_iff.1 ht)).kept hg (owns_ne (HA.out.at_ t (hp.mem_iff.1 ht)).1 HOV.out (by decide)) (owns_ne (HA.out.at_ t (hp.mem_iff.1 ht)).2.1 HOV.out (by decide))); have hlo := HN7.out.cell HLO.out fun x => x; clear hp hs hown hg)
      have HX3 : Hid ((ts'.map (·.2)).Perm ((Kn.piecesL X).map (Kn.best X))) := Lib.hid (by rw [← HAL.out]; exact HP.out.map _); have HFO := Lib.hid (HX.out.form_any HX3.out HSO.out); have HPE := Lib.hid (HX.out.form_perm HX3.out); have HLT : Hid (((ts'.map (·.2)).flatMap (·.1)).length = X.length) := Lib.hid (by rw [HPE.out.length_eq, List.length_range]); have HM' : Hid (m = ts'.length) := Lib.hid (by rw [HM.out, HP.out.length_eq]); have HC0 := Lib.hid (FC.begin w7 X L)
      obtain ⟨w8, HW8⟩ : ∃ w8, Hid (w8 = (((w7.alloc (.cells #[.slice none 0 0, .int .i64 L] 24)).alloc (.map #[] 0)).alloc (.cells #[.map (some (w7.heap.size + 1))] 80))) := ⟨_, Lib.hid rfl⟩
      obtain ⟨D, HD⟩ : ∃ D, Hid (D = w7.heap.size) := ⟨_, Lib.hid rfl⟩
      rw [← HW8.out, ← HD.out] at HC0 ⊢; obtain ⟨n, bx, ox, cc, bi, bo, hrd⟩ := HS.out.read (List.length_pos_iff.2 hn0); have HRd := Lib.hid hrd; have hnX : n = X.length := hrd.len; have HNX := Lib.hid hnX
      have hn16 : n ≤ 16 := by omega
      clear hrd hnX
      go_loopw [65] (fun i wr => ∃ (q : Nat) (sc : Value), q ≤ m ∧ i = .int .i64 q ∧ Hid (FC w7 wr D (D + 1 + 1) (D + 1) X L (oq (ts'.map (·.2)) q) sc)) (fun i _ => m - (intOf i).toNat)
      case atStart => exact ⟨0, _, by omega, rfl, HC0⟩
      case round =>
        obtain ⟨q, sc, hq, rfl, HC⟩ := hrel
        by_cases hqm : q < m
        · have hqt : q < ts'.length := by have := HM'.out; omega
          obtain ⟨⟨⟨s1, s2⟩, v⟩, HT⟩ : ∃ t, Hid (t = ts'[q]) := ⟨_, Lib.hid rfl⟩
          have hva : VwAt w7 ((s1, s2), v) := HT7.out _ (by rw [HT.out]; exact List.getElem_mem _); obtain ⟨a1, c1, a2, c2, he⟩ := hva.sl; simp only [Prod.mk.injEq] at he; obtain ⟨rfl, rfl⟩ := he
          obtain ⟨k, HK⟩ : ∃ k, Hid (k = v.1.length) := ⟨_, Lib.hid rfl⟩
          have hk16 : k ≤ 16 := by
            have h1 := oq_few (xs := ts'.map (·.2)) (q := q) (j := k) (by rw [List.length_map]; exact hqt) HLT.out; rw [List.length_append, List.length_take] at h1
            have h2 : (ts'.map (·.2))[q]'(by rw [List.length_map]; exact hqt) = v := by rw [List.getElem_map, ← HT.out]
            rw [h2] at h1; have := HK.out
            omega
          obtain ⟨g9, rfl⟩ : ∃ g9, a9 = some ⟨g9, 0, none⟩ := by
            rcases HOW.out.2 with ⟨_, h0⟩ | ⟨g9, _, _, e, _⟩
            · omega
            · injection e with e _ _
              exact ⟨g9, e⟩
          obtain ⟨hv0, hv1⟩ := vrow_cell HOW.out hqt; rw [← HT.out, ← HK.out] at hv0; rw [← HT.out] at hv1
          have y0 := HC.out.new.cell hv0 fun x => x
          have y1 := HC.out.new.cell hv1 fun x => x
          have i1 : (0 : Int) ≤ (q : Int) := by omega
          have i2 : (q : Int) < (m : Int) := by omega
          have HVA := Lib.hid hva; have HNw : Hid (New wa wr) := Lib.hid (HN7.out.trans HC.out.new); clear hva hv0 hv1; go_wp2
          obtain ⟨w10, HW10⟩ : ∃ w10, Hid (w10 = wr.alloc (.cells #[.slice a1 k c1, .slice a2 v.2.length c2] 94)) := ⟨_, Lib.hid rfl⟩
          have HC1 : Hid (FC w7 w10 D (D + 1 + 1) (D + 1) X L (oq (ts'.map (·.2)) q ++ v.1.take 0) sc) := Lib.hid (by rw [HW10.out, List.take_zero, List.append_nil]; exact HC.out.nw ((Fr.refl _ wr).alloc _)); rw [← HW10.out]
          go_loopw [72] (fun i wr => ∃ (j : Nat) (sc : Value), j ≤ k ∧ i = .int .i64 j ∧ Hid (FC w7 wr D (D + 1 + 1) (D + 1) X L (oq (ts'.map (·.2)) q ++ v.1.take j) sc)) (fun i _ => k - (intOf i).toNat)
          case atStart => exact ⟨0, _, by omega, rfl, HC1⟩
          case round =>
            obtain ⟨j, sd, hj, rfl, HCj⟩ := hrel
            by_cases hjk : j < k
            · obtain ⟨c, HCx⟩ : ∃ c, Hid (c = v.1[j]'(by have := HK.out; omega)) := ⟨_, Lib.hid rfl⟩
              obtain ⟨g1, c1', he1, hcc⟩ := OwnN.at (show OwnN w7 (.slice a1 v.1.length c1) v.1 from HVA.out.1) (i := j) (by have := HK.out; omega)
              cases he1
              rw [← HCx.out] at hcc
              have y2 := HCj.out.new.cell hcc fun x => x
              have hcX : c < X.length := by
                refine List.mem_range.1 (HPE.out.mem_iff.1 (List.mem_flatMap.2 ⟨v, List.mem_map.2 ⟨((.slice (some ⟨g1, 0, none⟩) v.1.length c1, .slice a2 v.2.length c2), v), by rw [HT.out]; exact List.getElem_mem _, rfl⟩, ?_⟩))
                rw [HCx.out]
                exact List.getElem_mem _
              have hcn : c < n := by have := HNX.out; omega
              have hrd := New.shR (HN7.out.trans HCj.out.new) HRd.out; have hb0 := hrd.c0; have hcr := hrd.cr c hcn; obtain ⟨e1, e2, e3, e4, e5⟩ := arc_nat HX.out hcX
              obtain ⟨na, HNa⟩ : ∃ na, Hid (na = Kn.arcN X (c, 0)) := ⟨_, Lib.hid rfl⟩
              obtain ⟨nb, HNb⟩ : ∃ nb, Hid (nb = Kn.arcN X (c, 1)) := ⟨_, Lib.hid rfl⟩
              obtain ⟨nc, HNc⟩ : ∃ nc, Hid (nc = Kn.arcN X (c, 2)) := ⟨_, Lib.hid rfl⟩
              obtain ⟨nd, HNd⟩ : ∃ nd, Hid (nd = Kn.arcN X (c, 3)) := ⟨_, Lib.hid rfl⟩
              obtain ⟨xp, HXP⟩ : ∃ xp, Hid (xp = (Kn.cr X c).p) := ⟨_, Lib.hid rfl⟩
              have x1 := hcr.a; have x2 := hcr.b; have x3 := hcr.c; have x4 := hcr.d; have x5 := hcr.p; have ha1 := e5 0 (by omega); have ha2 := e5 1 (by omega); have ha3 := e5 2 (by omega); have ha4 := e5 3 (by omega); rw [← HNa.out] at e1 ha1; rw [← HNb.out] at e2 ha2; rw [← HNc.out] at e3 ha3; rw [← HNd.out] at e4 ha4; rw [e1] at x1; rw [e2] at x2; rw [e3] at x3; rw [e4] at x4; rw [← HXP.out] at x5; have HE1 := Lib.hid e1; have HE2' := Lib.hid e2; have HE3 := Lib.hid e3; have HE4 := Lib.hid e4
              have j1 : (0 : Int) ≤ (j : Int) := by omega
              have j2 : (j : Int) < (k : Int) := by omega
              have j3 : (0 : Int) ≤ (c : Int) := by omega
              have j4 : (c : Int) < (n : Int) := by omega
              clear hrd hcr e1 e2 e3 e4 e5 hcc; go_wp2_with fail
              obtain ⟨w11, HW11⟩ : ∃ w11, Hid (w11 = wr.alloc (.cells #[.int .i64 (na : Int), .int .i64 (nb : Int), .int .i64 (nc : Int), .int .i64 (nd : Int), .bool xp] 75)) := ⟨_, Lib.hid rfl⟩
              obtain ⟨Bc, HBc⟩ : ∃ Bc, Hid (Bc = wr.heap.size) := ⟨_, Lib.hid rfl⟩
              obtain ⟨os, HOs⟩ : ∃ os, Hid (os = oq (ts'.map (·.2)) q ++ v.1.take j) := ⟨_, Lib.hid rfl⟩
              have hos : os.length ≤ 16 := by
                have h1 := oq_few (xs := ts'.map (·.2)) (q := q) (j := j) (by rw [List.length_map]; exact hqt) HLT.out; rw [List.getElem_map, ← HT.out] at h1; rw [HOs.out]
                exact Nat.le_trans h1 hl
              have HCk : Hid (FC w7 w11 D (D + 1 + 1) (D + 1) X L os sd) := Lib.hid (by rw [HW11.out, HOs.out]; exact HCj.out.nw ((Fr.refl _ wr).alloc _)); have HBK : Hid (w11.heap[Bc]? = some (.cells #[.int .i64 (na : Int), .int .i64 (nb : Int), .int .i64 (nc : Int), .int .i64 (nd : Int), .bool xp] 75 (0, 0))) := Lib.hid (by rw [HW11.out, HBc.out]; exact heap_alloc_new _ _); rw [← HW11.out, ← HBc.out]
              refine wp_region_held_drew (S := fun w' => w'.cell? ⟨Bc, 0, none⟩ = some (.int .i64 (na : Int)) ∧ w'.cell? ⟨Bc, 1, none⟩ = some (.int .i64 (nb : Int)) ∧ w'.cell? ⟨Bc, 2, none⟩ = some (.int .i64 (nc : Int)) ∧ w'.cell? ⟨Bc, 3, none⟩ = some (.int .i64 (nd : Int)) ∧ w'.cell? ⟨Bc, 4, none⟩ = some (.bool xp)) (by kernel_rfl) ?_ (fun hHeld => ?_)
              · exact ⟨cell_of_row _ _ 0 _ 75 (0, 0) HBK.out, cell_of_row _ _ 1 _ 75 (0, 0) HBK.out, cell_of_row _ _ 2 _ 75 (0, 0) HBK.out, cell_of_row _ _ 3 _ 75 (0, 0) HBK.out, cell_of_row _ _ 4 _ 75 (0, 0) HBK.out⟩
              obtain ⟨N0, HN0⟩ : ∃ N0, Hid (N0 = Kn.firsts (os.flatMap (Kn.arcsOf X))) := ⟨_, Lib.hid rfl⟩
              obtain ⟨N1, HN1⟩ : ∃ N1, Hid (N1 = Kn.meet N0 na) := ⟨_, Lib.hid rfl⟩
              obtain ⟨N2, HN2⟩ : ∃ N2, Hid (N2 = Kn.meet N1 nb) := ⟨_, Lib.hid rfl⟩
              obtain ⟨N3, HN3⟩ : ∃ N3, Hid (N3 = Kn.meet N2 nc) := ⟨_, Lib.hid rfl⟩
              obtain ⟨N4, HN4⟩ : ∃ N4, Hid (N4 = Kn.meet N3 nd) := ⟨_, Lib.hid rfl⟩
              obtain ⟨v1, HV1⟩ : ∃ v1, Hid (v1 = N1.idxOf na + 1) := ⟨_, Lib.hid rfl⟩
              obtain ⟨v2, HV2⟩ : ∃ v2, Hid (v2 = N2.idxOf nb + 1) := ⟨_, Lib.hid rfl⟩
              obtain ⟨v3, HV3⟩ : ∃ v3, Hid (v3 = N3.idxOf nc + 1) := ⟨_, Lib.hid rfl⟩
              obtain ⟨v4, HV4⟩ : ∃ v4, Hid (v4 = N4.idxOf nd + 1) := ⟨_, Lib.hid rfl⟩
              have hN0 : N0.length ≤ 64 := by
                have h1 := Kn.firsts_len (os.flatMap (Kn.arcsOf X))
                have h2 : ∀ l : List Nat, (l.flatMap (Kn.arcsOf X)).length = l.length * 4 := fun l => by
                  induction l with
                  | nil => rfl
                  | cons y ys ih => rw [List.flatMap_cons, List.length_append, ih, List.length_cons]; simp only [Kn.arcsOf, List.length_cons, List.length_nil]; omega
                rw [h2] at h1; rw [HN0.out]
                omega
              have hN1 : N1.length ≤ 65 := by have := Kn.meet_len N0 na; rw [HN1.out]; omega
              have hN2 : N2.length ≤ 66 := by have := Kn.meet_len N1 nb; rw [HN2.out]; omega
              have hN3 : N3.length ≤ 67 := by have := Kn.meet_len N2 nc; rw [HN3.out]; omega
              have HN5 : Hid (N4 = Kn.firsts ((os ++ [c]).flatMap (Kn.arcsOf X))) := Lib.hid (by
                rw [Kn.firsts_snoc, ← HN0.out, ← HNa.out, ← HNb.out, ← HNc.out, ← HNd.out, HN4.out, HN3.out, HN2.out, HN1.out]
                rfl)
              have HRN : Hid ((Kn.cr X c).ren (fun a => (Kn.firsts ((os ++ [c]).flatMap (Kn.arcsOf X))).idxOf a + 1) = ⟨v1, v2, v3, v4, xp⟩) := Lib.hid (by
                obtain ⟨k1, k2, k3, k4⟩ := Kn.meet4_idx N0 na nb nc nd
                have hq4 : Kn.meet4 N0 na nb nc nd = N4 := by rw [HN4.out, HN3.out, HN2.out, HN1.out]; rfl
                rw [hq4] at k1 k2 k3 k4; rw [← HN1.out] at k1 k2 k3 k4; rw [← HN2.out] at k2 k3 k4; rw [← HN3.out] at k3 k4; rw [← HN4.out] at k4; rw [← HN5.out]
                unfold Kn.Cr.ren
                rw [HE1.out, HE2'.out, HE3.out, HE4.out, ← HXP.out]; simp only [Int.toNat_natCast]
                rw [k1, k2, k3, HV1.out, HV2.out, HV3.out, HV4.out])
              have HOS1 : Hid (os ++ [c] = oq (ts'.map (·.2)) q ++ v.1.take (j + 1)) := Lib.hid (by
                rw [HOs.out, List.append_assoc, HCx.out, ← List.take_succ_eq_append_getElem])
              have HSB : Hid (¬ sd.ownBlock = some Bc) := Lib.hid (fun e => by
                obtain ⟨u, hu, _⟩ := own_cells HCj.out.own _ e; have := (Array.getElem?_eq_some_iff.1 hu).1; have := HBc.out
                omega)
              have hb1 : na ≤ 1000 := by omega
              have hb2 : nb ≤ 1000 := by omega
              have hb3 : nc ≤ 1000 := by omega
              have hb4 : nd ≤ 1000 := by omega
              obtain ⟨i5, hi5, hz50, hz51, hz52⟩ := info_parts Tryz.info75
              have HR0 : Hid (RC w7 w11.drew D (D + 1 + 1) (D + 1) Bc X L os sd N0 #[.int .i64 (na : Int), .int .i64 (nb : Int), .int .i64 (nc : Int), .int .i64 (nd : Int), .bool xp]) := Lib.hid (by
                have h := HCk.out.nw (Fr.refl _ w11).drew; rw [HN0.out]
                exact ⟨h.new, h.ld, h.lm, h.box, h.fb, h.own, h.map, HBK.out⟩)
              generalize w11.drew = r0 at hHeld HR0 ⊢; obtain ⟨a3, c3, rfl, _⟩ := own_shape2 HR0.out.own
              obtain ⟨ol, HOL⟩ : ∃ ol, Hid (ol = os.length) := ⟨_, Lib.hid rfl⟩
              rw [← HOL.out] at HR0 HSB; rw [← HOL.out] at hos; refine' tkO (i := 0) ?_; simp only [Act.put, lq1, lq2, lq4, lq5, lq6]; refine' tkO (i := 2) ?_; simp only [Act.put, lq1, lq2, lq3, lq4, lq5, lq6]; refine' tkO (i := 3) ?_; simp only [Act.put, lq1, lq2, lq3, lq4, lq5, lq6]; refine' tkO (i := 4) ?_; simp only [Act.put, lq1, lq2, lq3, lq4, lq5, lq6]; refine' tkO (i := 6) ?_; simp only [Act.put, lq1, lq2, lq3, lq4, lq5, lq6]; refine' tkO (i := 7) ?_; simp only [Act.put, lq1, lq2, lq3, lq4, lq5, lq6]; refine' tkO (i := 8) ?_; simp only [Act.put, lq1, lq2, lq3, lq4, lq5, lq6]
              refine' tkO (i := 10) ?_; simp only [Act.put, lq1, lq2, lq3, lq4, lq5, lq6]; refine' tkO (i := 11) ?_; simp only [Act.put, lq1, lq2, lq3, lq4, lq5, lq6]; refine' tkO (i := 12) ?_; simp only [Act.put, lq1, lq2, lq3, lq4, lq5, lq6]; refine' tkO (i := 14) ?_; simp only [Act.put, lq1, lq2, lq3, lq4, lq5, lq6]; refine' tkO (i := 15) ?_; simp only [Act.put, lq1, lq2, lq3, lq4, lq5, lq6]; refine' tkO (i := 16) ?_; simp only [Act.put, lq1, lq2, lq3, lq4, lq5, lq6]; refine' tkO (i := 18) ?_; simp only [Act.put, lq1, lq2, lq3, lq4, lq5, lq6]; refine' tkO (i := 19) ?_
              simp only [Act.put, lq1, lq2, lq3, lq4, lq5, lq6]
              refine wpAnyH_ready (rs := [1, 5]) (by kernel_rfl) (by simp) ?_
              refine AllReadyH.cons rfl (fun K hK => ?_) (AllReadyH.cons rfl (fun K hK => ?_) AllReadyH.nil)
              · skip
                obtain ⟨d0, _, _, _⟩ := box2_c HR0.out.box; (try simp only [lq1, lq2, lq3]); go_simp; refine hK.out _ _ HR0.out.five (fun hHeld => ?_); clear hK K; (try simp only [Act.put, lq1, lq2, lq3, lq4, lq5, lq6]); refine rdO (i := 5) (fun K hK => ?_); (try simp only [lq1, lq2, lq3]); go_simp; refine (HR0.out.named (x := na) (v := v1) hb1 (by omega) HN1.out HV1.out).mono ?_; rintro e r1 ⟨rfl, hr⟩; have HR1 := Lib.hid hr; clear hr; go_wp2_with fail; refine hK.out _ _ HR1.out.five (fun hHeld => ?_); clear hK K; (try simp only [Act.put, lq1, lq2, lq3, lq4, lq5, lq6])
                refine rdO (i := 9) (fun K hK => ?_); (try simp only [lq1, lq2, lq3]); go_simp; refine (HR1.out.named (x := nb) (v := v2) hb2 (by omega) HN2.out HV2.out).mono ?_; rintro e r2 ⟨rfl, hr⟩; have HR2 := Lib.hid hr; clear hr; go_wp2_with fail; refine hK.out _ _ HR2.out.five (fun hHeld => ?_); clear hK K; (try simp only [Act.put, lq1, lq2, lq3, lq4, lq5, lq6]); refine rdO (i := 13) (fun K hK => ?_); (try simp only [lq1, lq2, lq3]); go_simp; refine (HR2.out.named (x := nc) (v := v3) hb3 (by omega) HN3.out HV3.out).mono ?_; rintro e r3 ⟨rfl, hr⟩; have HR3 := Lib.hid hr; clear hr
                go_wp2_with fail; refine hK.out _ _ HR3.out.five (fun hHeld => ?_); clear hK K; (try simp only [Act.put, lq1, lq2, lq3, lq4, lq5, lq6]); refine rdO (i := 17) (fun K hK => ?_); (try simp only [lq1, lq2, lq3]); go_simp; refine (HR3.out.named (x := nd) (v := v4) hb4 (by omega) HN4.out HV4.out).mono ?_; rintro e r4 ⟨rfl, hr⟩; have HR4 := Lib.hid hr; clear hr; go_wp2_with fail; refine hK.out _ _ HR4.out.five (fun hHeld => ?_); clear hK K; (try simp only [Act.put, lq1, lq2, lq3, lq4, lq5, lq6]); refine' tkO (i := 20) ?_; simp only [Act.put, lq1, lq2, lq3, lq4, lq5, lq6]
                refine rdO (i := 21) (fun K hK => ?_); (try simp only [lq1, lq2, lq3]); go_simp; have HR5 := Lib.hid (HR4.out.nw ((Fr.refl _ r4).alloc (.cells #[.int .i64 (v1 : Nat), .int .i64 (v2 : Nat), .int .i64 (v3 : Nat), .int .i64 (v4 : Nat), .bool xp] 75))); refine hK.out _ _ HR5.out.five (fun hHeld => ?_); clear hK K; (try simp only [Act.put, lq1, lq2, lq3, lq4, lq5, lq6]); refine rdO (i := 22) (fun K hK => ?_); (try simp only [lq1, lq2, lq3]); have HOV := Lib.hid HR4.out.own; rw [← HOL.out] at HOV; rw [if_pos (by rfl)]
                refine wp_append_lies _ _ _ 22 rfl w7.heap.size 75 i5 (.agg #[.int .i64 0, .int .i64 0, .int .i64 0, .int .i64 0, .bool false]) 5 40 Tryz.underlying22 hi5 hz50 hz51 hz52 rfl (by decide) _ ol (crCells (Kn.numbered X os)) rfl (World.ownsRow.alloc HOV.out _) ⟨r4.heap.size, 0, none⟩ 1 1 [.int .i64 (v1 : Nat), .int .i64 (v2 : Nat), .int .i64 (v3 : Nat), .int .i64 (v4 : Nat), .bool xp] rfl rfl (five_cells rfl) (one_five _ _ _ _ _) (by omega) (by unfold maxLen; omega) (by omega) (by have := HR4.out.new.size; simp only [World.size_alloc]; omega) _ rfl ?_
                intro g cap w9 hown hgrow _ _
                obtain ⟨hbD, hbC⟩ := HR4.out.app hown hgrow HSB.out; have HF9 := Lib.hid (HR4.out.end_ (c := c) HN5.out HRN.out (by rw [← HOL.out]; exact hown) hgrow); obtain ⟨f0, _, f2, _⟩ := box2_c hbD; have HBC := Lib.hid hbC
                have hne : ¬ Bc = D := fun e => by subst e; rw [hbD] at hbC; simp at hbC
                have HBC2 := Lib.hid (((Fr.refl (fun k => k = D) w9).setCell (a := ⟨D, 0, none⟩) (.inl rfl) (.slice (some ⟨g, 0, none⟩) (ol + 1) cap)).blk hbC hne); clear hown hgrow hbD hbC hne; refine hK.out _ _ ⟨cell_of_row _ _ 0 _ 75 (0, 0) HBC.out, cell_of_row _ _ 1 _ 75 (0, 0) HBC.out, cell_of_row _ _ 2 _ 75 (0, 0) HBC.out, cell_of_row _ _ 3 _ 75 (0, 0) HBC.out, cell_of_row _ _ 4 _ 75 (0, 0) HBC.out⟩ (fun hHeld => ?_); clear hK K; (try simp only [Act.put, lq4, lq5, lq6]); refine' tkO (i := 23) ?_; simp only [Act.put, lq1, lq2, lq3, lq4, lq5, lq6]
                refine rdO (i := 24) (fun K hK => ?_); (try simp only [lq1, lq2, lq3]); go_simp; refine hK.out _ _ ⟨cell_of_row _ _ 0 _ 75 (0, 0) HBC2.out, cell_of_row _ _ 1 _ 75 (0, 0) HBC2.out, cell_of_row _ _ 2 _ 75 (0, 0) HBC2.out, cell_of_row _ _ 3 _ 75 (0, 0) HBC2.out, cell_of_row _ _ 4 _ 75 (0, 0) HBC2.out⟩ (fun hHeld => ?_); clear hK K; (try simp only [Act.put, lq1, lq2, lq3, lq4, lq5, lq6]); refine wpAnyH_done (by kernel_rfl) ?_ _; go_wp2
                go_roundw
                case rel => exact ⟨j + 1, _, by omega, by go_num, Lib.hid (by rw [← HOS1.out]; exact HF9.out)⟩
                case measure => simp [intOf]; omega
              · skip
                (try simp only [lq1, lq2, lq3]); go_simp; refine (HR0.out.named (x := na) (v := v1) hb1 (by omega) HN1.out HV1.out).mono ?_; rintro e r1 ⟨rfl, hr⟩; have HR1 := Lib.hid hr; clear hr; go_wp2_with fail; refine hK.out _ _ HR1.out.five (fun hHeld => ?_); clear hK K; (try simp only [Act.put, lq1, lq2, lq3, lq4, lq5, lq6])
                refine wpAnyH_ready (rs := [1, 9]) (by kernel_rfl) (by simp) ?_
                refine AllReadyH.cons rfl (fun K hK => ?_) (AllReadyH.cons rfl (fun K hK => ?_) AllReadyH.nil)
                · skip
                  obtain ⟨d0, _, _, _⟩ := box2_c HR1.out.box; (try simp only [lq1, lq2, lq3]); go_simp; refine hK.out _ _ HR1.out.five (fun hHeld => ?_); clear hK K; (try simp only [Act.put, lq1, lq2, lq3, lq4, lq5, lq6]); refine rdO (i := 9) (fun K hK => ?_); (try simp only [lq1, lq2, lq3]); go_simp; refine (HR1.out.named (x := nb) (v := v2) hb2 (by omega) HN2.out HV2.out).mono ?_; rintro e r2 ⟨rfl, hr⟩; have HR2 := Lib.hid hr; clear hr; go_wp2_with fail; refine hK.out _ _ HR2.out.five (fun hHeld => ?_); clear hK K; (try simp only [Act.put, lq1, lq2, lq3, lq4, lq5, lq6])
                  refine rdO (i := 13) (fun K hK => ?_); (try simp only [lq1, lq2, lq3]); go_simp; refine (HR2.out.named (x := nc) (v := v3) hb3 (by omega) HN3.out HV3.out).mono ?_; rintro e r3 ⟨rfl, hr⟩; have HR3 := Lib.hid hr; clear hr; go_wp2_with fail; refine hK.out _ _ HR3.out.five (fun hHeld => ?_); clear hK K; (try simp only [Act.put, lq1, lq2, lq3, lq4, lq5, lq6]); refine rdO (i := 17) (fun K hK => ?_); (try simp only [lq1, lq2, lq3]); go_simp; refine (HR3.out.named (x := nd) (v := v4) hb4 (by omega) HN4.out HV4.out).mono ?_; rintro e r4 ⟨rfl, hr⟩; have HR4 := Lib.hid hr; clear hr
                  go_wp2_with fail; refine hK.out _ _ HR4.out.five (fun hHeld => ?_); clear hK K; (try simp only [Act.put, lq1, lq2, lq3, lq4, lq5, lq6]); refine' tkO (i := 20) ?_; simp only [Act.put, lq1, lq2, lq3, lq4, lq5, lq6]; refine rdO (i := 21) (fun K hK => ?_); (try simp only [lq1, lq2, lq3]); go_simp; have HR5 := Lib.hid (HR4.out.nw ((Fr.refl _ r4).alloc (.cells #[.int .i64 (v1 : Nat), .int .i64 (v2 : Nat), .int .i64 (v3 : Nat), .int .i64 (v4 : Nat), .bool xp] 75))); refine hK.out _ _ HR5.out.five (fun hHeld => ?_); clear hK K; (try simp only [Act.put, lq1, lq2, lq3, lq4, lq5, lq6])
                  refine rdO (i := 22) (fun K hK => ?_); (try simp only [lq1, lq2, lq3]); have HOV := Lib.hid HR4.out.own; rw [← HOL.out] at HOV; rw [if_pos (by rfl)]
                  refine wp_append_lies _ _ _ 22 rfl w7.heap.size 75 i5 (.agg #[.int .i64 0, .int .i64 0, .int .i64 0, .int .i64 0, .bool false]) 5 40 Tryz.underlying22 hi5 hz50 hz51 hz52 rfl (by decide) _ ol (crCells (Kn.numbered X os)) rfl (World.ownsRow.alloc HOV.out _) ⟨r4.heap.size, 0, none⟩ 1 1 [.int .i64 (v1 : Nat), .int .i64 (v2 : Nat), .int .i64 (v3 : Nat), .int .i64 (v4 : Nat), .bool xp] rfl rfl (five_cells rfl) (one_five _ _ _ _ _) (by omega) (by unfold maxLen; omega) (by omega) (by have := HR4.out.new.size; simp only [World.size_alloc]; omega) _ rfl ?_
                  intro g cap w9 hown hgrow _ _
                  obtain ⟨hbD, hbC⟩ := HR4.out.app hown hgrow HSB.out; have HF9 := Lib.hid (HR4.out.end_ (c := c) HN5.out HRN.out (by rw [← HOL.out]; exact hown) hgrow); obtain ⟨f0, _, f2, _⟩ := box2_c hbD; have HBC := Lib.hid hbC
                  have hne : ¬ Bc = D := fun e => by subst e; rw [hbD] at hbC; simp at hbC
                  have HBC2 := Lib.hid (((Fr.refl (fun k => k = D) w9).setCell (a := ⟨D, 0, none⟩) (.inl rfl) (.slice (some ⟨g, 0, none⟩) (ol + 1) cap)).blk hbC hne); clear hown hgrow hbD hbC hne; refine hK.out _ _ ⟨cell_of_row _ _ 0 _ 75 (0, 0) HBC.out, cell_of_row _ _ 1 _ 75 (0, 0) HBC.out, cell_of_row _ _ 2 _ 75 (0, 0) HBC.out, cell_of_row _ _ 3 _ 75 (0, 0) HBC.out, cell_of_row _ _ 4 _ 75 (0, 0) HBC.out⟩ (fun hHeld => ?_); clear hK K; (try simp only [Act.put, lq4, lq5, lq6]); refine' tkO (i := 23) ?_; simp only [Act.put, lq1, lq2, lq3, lq4, lq5, lq6]
                  refine rdO (i := 24) (fun K hK => ?_); (try simp only [lq1, lq2, lq3]); go_simp; refine hK.out _ _ ⟨cell_of_row _ _ 0 _ 75 (0, 0) HBC2.out, cell_of_row _ _ 1 _ 75 (0, 0) HBC2.out, cell_of_row _ _ 2 _ 75 (0, 0) HBC2.out, cell_of_row _ _ 3 _ 75 (0, 0) HBC2.out, cell_of_row _ _ 4 _ 75 (0, 0) HBC2.out⟩ (fun hHeld => ?_); clear hK K; (try simp only [Act.put, lq1, lq2, lq3, lq4, lq5, lq6]); refine wpAnyH_done (by kernel_rfl) ?_ _; go_wp2
                  go_roundw
                  case rel => exact ⟨j + 1, _, by omega, by go_num, Lib.hid (by rw [← HOS1.out]; exact HF9.out)⟩
                  case measure => simp [intOf]; omega
                · skip
                  (try simp only [lq1, lq2, lq3]); go_simp; refine (HR1.out.named (x := nb) (v := v2) hb2 (by omega) HN2.out HV2.out).mono ?_; rintro e r2 ⟨rfl, hr⟩; have HR2 := Lib.hid hr; clear hr; go_wp2_with fail; refine hK.out _ _ HR2.out.five (fun hHeld => ?_); clear hK K; (try simp only [Act.put, lq1, lq2, lq3, lq4, lq5, lq6])
                  refine wpAnyH_ready (rs := [1, 13]) (by kernel_rfl) (by simp) ?_
                  refine AllReadyH.cons rfl (fun K hK => ?_) (AllReadyH.cons rfl (fun K hK => ?_) AllReadyH.nil)
                  · skip
                    obtain ⟨d0, _, _, _⟩ := box2_c HR2.out.box; (try simp only [lq1, lq2, lq3]); go_simp; refine hK.out _ _ HR2.out.five (fun hHeld => ?_); clear hK K; (try simp only [Act.put, lq1, lq2, lq3, lq4, lq5, lq6]); refine rdO (i := 13) (fun K hK => ?_); (try simp only [lq1, lq2, lq3]); go_simp; refine (HR2.out.named (x := nc) (v := v3) hb3 (by omega) HN3.out HV3.out).mono ?_; rintro e r3 ⟨rfl, hr⟩; have HR3 := Lib.hid hr; clear hr; go_wp2_with fail; refine hK.out _ _ HR3.out.five (fun hHeld => ?_); clear hK K; (try simp only [Act.put, lq1, lq2, lq3, lq4, lq5, lq6])
                    refine rdO (i := 17) (fun K hK => ?_); (try simp only [lq1, lq2, lq3]); go_simp; refine (HR3.out.named (x := nd) (v := v4) hb4 (by omega) HN4.out HV4.out).mono ?_; rintro e r4 ⟨rfl, hr⟩; have HR4 := Lib.hid hr; clear hr; go_wp2_with fail; refine hK.out _ _ HR4.out.five (fun hHeld => ?_); clear hK K; (try simp only [Act.put, lq1, lq2, lq3, lq4, lq5, lq6]); refine' tkO (i := 20) ?_; simp only [Act.put, lq1, lq2, lq3, lq4, lq5, lq6]; refine rdO (i := 21) (fun K hK => ?_); (try simp only [lq1, lq2, lq3]); go_simp
                    have HR5 := Lib.hid (HR4.out.nw ((Fr.refl _ r4).alloc (.cells #[.int .i64 (v1 : Nat), .int .i64 (v2 : Nat), .int .i64 (v3 : Nat), .int .i64 (v4 : Nat), .bool xp] 75))); refine hK.out _ _ HR5.out.five (fun hHeld => ?_); clear hK K; (try simp only [Act.put, lq1, lq2, lq3, lq4, lq5, lq6]); refine rdO (i := 22) (fun K hK => ?_); (try simp only [lq1, lq2, lq3]); have HOV := Lib.hid HR4.out.own; rw [← HOL.out] at HOV; rw [if_pos (by rfl)]
                    refine wp_append_lies _ _ _ 22 rfl w7.heap.size 75 i5 (.agg #[.int .i64 0, .int .i64 0, .int .i64 0, .int .i64 0, .bool false]) 5 40 Tryz.underlying22 hi5 hz50 hz51 hz52 rfl (by decide) _ ol (crCells (Kn.numbered X os)) rfl (World.ownsRow.alloc HOV.out _) ⟨r4.heap.size, 0, none⟩ 1 1 [.int .i64 (v1 : Nat), .int .i64 (v2 : Nat), .int .i64 (v3 : Nat), .int .i64 (v4 : Nat), .bool xp] rfl rfl (five_cells rfl) (one_five _ _ _ _ _) (by omega) (by unfold maxLen; omega) (by omega) (by have := HR4.out.new.size; simp only [World.size_alloc]; omega) _ rfl ?_
                    intro g cap w9 hown hgrow _ _
                    obtain ⟨hbD, hbC⟩ := HR4.out.app hown hgrow HSB.out; have HF9 := Lib.hid (HR4.out.end_ (c := c) HN5.out HRN.out (by rw [← HOL.out]; exact hown) hgrow); obtain ⟨f0, _, f2, _⟩ := box2_c hbD; have HBC := Lib.hid hbC
                    have hne : ¬ Bc = D := fun e => by subst e; rw [hbD] at hbC; simp at hbC
                    have HBC2 := Lib.hid (((Fr.refl (fun k => k = D) w9).setCell (a := ⟨D, 0, none⟩) (.inl rfl) (.slice (some ⟨g, 0, none⟩) (ol + 1) cap)).blk hbC hne); clear hown hgrow hbD hbC hne; refine hK.out _ _ ⟨cell_of_row _ _ 0 _ 75 (0, 0) HBC.out, cell_of_row _ _ 1 _ 75 (0, 0) HBC.out, cell_of_row _ _ 2 _ 75 (0, 0) HBC.out, cell_of_row _ _ 3 _ 75 (0, 0) HBC.out, cell_of_row _ _ 4 _ 75 (0, 0) HBC.out⟩ (fun hHeld => ?_); clear hK K; (try simp only [Act.put, lq4, lq5, lq6]); refine' tkO (i := 23) ?_; simp only [Act.put, lq1, lq2, lq3, lq4, lq5, lq6]
                    refine rdO (i := 24) (fun K hK => ?_); (try simp only [lq1, lq2, lq3]); go_simp; refine hK.out _ _ ⟨cell_of_row _ _ 0 _ 75 (0, 0) HBC2.out, cell_of_row _ _ 1 _ 75 (0, 0) HBC2.out, cell_of_row _ _ 2 _ 75 (0, 0) HBC2.out, cell_of_row _ _ 3 _ 75 (0, 0) HBC2.out, cell_of_row _ _ 4 _ 75 (0, 0) HBC2.out⟩ (fun hHeld => ?_); clear hK K; (try simp only [Act.put, lq1, lq2, lq3, lq4, lq5, lq6]); refine wpAnyH_done (by kernel_rfl) ?_ _; go_wp2
                    go_roundw
                    case rel => exact ⟨j + 1, _, by omega, by go_num, Lib.hid (by rw [← HOS1.out]; exact HF9.out)⟩
                    case measure => simp [intOf]; omega
                  · skip
                    (try simp only [lq1, lq2, lq3]); go_simp; refine (HR2.out.named (x := nc) (v := v3) hb3 (by omega) HN3.out HV3.out).mono ?_; rintro e r3 ⟨rfl, hr⟩; have HR3 := Lib.hid hr; clear hr; go_wp2_with fail; refine hK.out _ _ HR3.out.five (fun hHeld => ?_); clear hK K; (try simp only [Act.put, lq1, lq2, lq3, lq4, lq5, lq6])
                    refine wpAnyH_ready (rs := [1, 17]) (by kernel_rfl) (by simp) ?_
                    refine AllReadyH.cons rfl (fun K hK => ?_) (AllReadyH.cons rfl (fun K hK => ?_) AllReadyH.nil)
                    · skip
                      obtain ⟨d0, _, _, _⟩ := box2_c HR3.out.box; (try simp only [lq1, lq2, lq3]); go_simp; refine hK.out _ _ HR3.out.five (fun hHeld => ?_); clear hK K; (try simp only [Act.put, lq1, lq2, lq3, lq4, lq5, lq6]); refine rdO (i := 17) (fun K hK => ?_); (try simp only [lq1, lq2, lq3]); go_simp; refine (HR3.out.named (x := nd) (v := v4) hb4 (by omega) HN4.out HV4.out).mono ?_; rintro e r4 ⟨rfl, hr⟩; have HR4 := Lib.hid hr; clear hr; go_wp2_with fail; refine hK.out _ _ HR4.out.five (fun hHeld => ?_); clear hK K; (try simp only [Act.put, lq1, lq2, lq3, lq4, lq5, lq6])
                      refine' tkO (i := 20) ?_; simp only [Act.put, lq1, lq2, lq3, lq4, lq5, lq6]; refine rdO (i := 21) (fun K hK => ?_); (try simp only [lq1, lq2, lq3]); go_simp; have HR5 := Lib.hid (HR4.out.nw ((Fr.refl _ r4).alloc (.cells #[.int .i64 (v1 : Nat), .int .i64 (v2 : Nat), .int .i64 (v3 : Nat), .int .i64 (v4 : Nat), .bool xp] 75))); refine hK.out _ _ HR5.out.five (fun hHeld => ?_); clear hK K; (try simp only [Act.put, lq1, lq2, lq3, lq4, lq5, lq6]); refine rdO (i := 22) (fun K hK => ?_); (try simp only [lq1, lq2, lq3]); have HOV := Lib.hid HR4.out.own; rw [← HOL.out] at HOV
                      rw [if_pos (by rfl)]
                      refine wp_append_lies _ _ _ 22 rfl w7.heap.size 75 i5 (.agg #[.int .i64 0, .int .i64 0, .int .i64 0, .int .i64 0, .bool false]) 5 40 Tryz.underlying22 hi5 hz50 hz51 hz52 rfl (by decide) _ ol (crCells (Kn.numbered X os)) rfl (World.ownsRow.alloc HOV.out _) ⟨r4.heap.size, 0, none⟩ 1 1 [.int .i64 (v1 : Nat), .int .i64 (v2 : Nat), .int .i64 (v3 : Nat), .int .i64 (v4 : Nat), .bool xp] rfl rfl (five_cells rfl) (one_five _ _ _ _ _) (by omega) (by unfold maxLen; omega) (by omega) (by have := HR4.out.new.size; simp only [World.size_alloc]; omega) _ rfl ?_
                      intro g cap w9 hown hgrow _ _
                      obtain ⟨hbD, hbC⟩ := HR4.out.app hown hgrow HSB.out; have HF9 := Lib.hid (HR4.out.end_ (c := c) HN5.out HRN.out (by rw [← HOL.out]; exact hown) hgrow); obtain ⟨f0, _, f2, _⟩ := box2_c hbD; have HBC := Lib.hid hbC
                      have hne : ¬ Bc = D := fun e => by subst e; rw [hbD] at hbC; simp at hbC
                      have HBC2 := Lib.hid (((Fr.refl (fun k => k = D) w9).setCell (a := ⟨D, 0, none⟩) (.inl rfl) (.slice (some ⟨g, 0, none⟩) (ol + 1) cap)).blk hbC hne); clear hown hgrow hbD hbC hne; refine hK.out _ _ ⟨cell_of_row _ _ 0 _ 75 (0, 0) HBC.out, cell_of_row _ _ 1 _ 75 (0, 0) HBC.out, cell_of_row _ _ 2 _ 75 (0, 0) HBC.out, cell_of_row _ _ 3 _ 75 (0, 0) HBC.out, cell_of_row _ _ 4 _ 75 (0, 0) HBC.out⟩ (fun hHeld => ?_); clear hK K; (try simp only [Act.put, lq4, lq5, lq6]); refine' tkO (i := 23) ?_; simp only [Act.put, lq1, lq2, lq3, lq4, lq5, lq6]
                      refine rdO (i := 24) (fun K hK => ?_); (try simp only [lq1, lq2, lq3]); go_simp; refine hK.out _ _ ⟨cell_of_row _ _ 0 _ 75 (0, 0) HBC2.out, cell_of_row _ _ 1 _ 75 (0, 0) HBC2.out, cell_of_row _ _ 2 _ 75 (0, 0) HBC2.out, cell_of_row _ _ 3 _ 75 (0, 0) HBC2.out, cell_of_row _ _ 4 _ 75 (0, 0) HBC2.out⟩ (fun hHeld => ?_); clear hK K; (try simp only [Act.put, lq1, lq2, lq3, lq4, lq5, lq6]); refine wpAnyH_done (by kernel_rfl) ?_ _; go_wp2
                      go_roundw
                      case rel => exact ⟨j + 1, _, by omega, by go_num, Lib.hid (by rw [← HOS1.out]; exact HF9.out)⟩
                      case measure => simp [intOf]; omega
                    · skip
                      (try simp only [lq1, lq2, lq3]); go_simp; refine (HR3.out.named (x := nd) (v := v4) hb4 (by omega) HN4.out HV4.out).mono ?_; rintro e r4 ⟨rfl, hr⟩; have HR4 := Lib.hid hr; clear hr; go_wp2_with fail; refine hK.out _ _ HR4.out.five (fun hHeld => ?_); clear hK K; (try simp only [Act.put, lq1, lq2, lq3, lq4, lq5, lq6]); refine' tkO (i := 20) ?_; simp only [Act.put, lq1, lq2, lq3, lq4, lq5, lq6]
                      refine wpAnyH_ready (rs := [1, 21]) (by kernel_rfl) (by simp) ?_
                      refine AllReadyH.cons rfl (fun K hK => ?_) (AllReadyH.cons rfl (fun K hK => ?_) AllReadyH.nil)
                      · skip
                        obtain ⟨d0, _, _, _⟩ := box2_c HR4.out.box; (try simp only [lq1, lq2, lq3]); go_simp; refine hK.out _ _ HR4.out.five (fun hHeld => ?_); clear hK K; (try simp only [Act.put, lq1, lq2, lq3, lq4, lq5, lq6]); refine rdO (i := 21) (fun K hK => ?_); (try simp only [lq1, lq2, lq3]); go_simp; have HR5 := Lib.hid (HR4.out.nw ((Fr.refl _ r4).alloc (.cells #[.int .i64 (v1 : Nat), .int .i64 (v2 : Nat), .int .i64 (v3 : Nat), .int .i64 (v4 : Nat), .bool xp] 75))); refine hK.out _ _ HR5.out.five (fun hHeld => ?_); clear hK K; (try simp only [Act.put, lq1, lq2, lq3, lq4, lq5, lq6])
                        refine rdO (i := 22) (fun K hK => ?_); (try simp only [lq1, lq2, lq3]); have HOV := Lib.hid HR4.out.own; rw [← HOL.out] at HOV; rw [if_pos (by rfl)]
                        refine wp_append_lies _ _ _ 22 rfl w7.heap.size 75 i5 (.agg #[.int .i64 0, .int .i64 0, .int .i64 0, .int .i64 0, .bool false]) 5 40 Tryz.underlying22 hi5 hz50 hz51 hz52 rfl (by decide) _ ol (crCells (Kn.numbered X os)) rfl (World.ownsRow.alloc HOV.out _) ⟨r4.heap.size, 0, none⟩ 1 1 [.int .i64 (v1 : Nat), .int .i64 (v2 : Nat), .int .i64 (v3 : Nat), .int .i64 (v4 : Nat), .bool xp] rfl rfl (five_cells rfl) (one_five _ _ _ _ _) (by omega) (by unfold maxLen; omega) (by omega) (by have := HR4.out.new.size; simp only [World.size_alloc]; omega) _ rfl ?_
                        intro g cap w9 hown hgrow _ _
                        obtain ⟨hbD, hbC⟩ := HR4.out.app hown hgrow HSB.out; have HF9 := Lib.hid (HR4.out.end_ (c := c) HN5.out HRN.out (by rw [← HOL.out]; exact hown) hgrow); obtain ⟨f0, _, f2, _⟩ := box2_c hbD; have HBC := Lib.hid hbC
                        have hne : ¬ Bc = D := fun e => by subst e; rw [hbD] at hbC; simp at hbC
                        have HBC2 := Lib.hid (((Fr.refl (fun k => k = D) w9).setCell (a := ⟨D, 0, none⟩) (.inl rfl) (.slice (some ⟨g, 0, none⟩) (ol + 1) cap)).blk hbC hne); clear hown hgrow hbD hbC hne; refine hK.out _ _ ⟨cell_of_row _ _ 0 _ 75 (0, 0) HBC.out, cell_of_row _ _ 1 _ 75 (0, 0) HBC.out, cell_of_row _ _ 2 _ 75 (0, 0) HBC.out, cell_of_row _ _ 3 _ 75 (0, 0) HBC.out, cell_of_row _ _ 4 _ 75 (0, 0) HBC.out⟩ (fun hHeld => ?_); clear hK K; (try simp only [Act.put, lq4, lq5, lq6]); refine' tkO (i := 23) ?_; simp only [Act.put, lq1, lq2, lq3, lq4, lq5, lq6]
                        refine rdO (i := 24) (fun K hK => ?_); (try simp only [lq1, lq2, lq3]); go_simp; refine hK.out _ _ ⟨cell_of_row _ _ 0 _ 75 (0, 0) HBC2.out, cell_of_row _ _ 1 _ 75 (0, 0) HBC2.out, cell_of_row _ _ 2 _ 75 (0, 0) HBC2.out, cell_of_row _ _ 3 _ 75 (0, 0) HBC2.out, cell_of_row _ _ 4 _ 75 (0, 0) HBC2.out⟩ (fun hHeld => ?_); clear hK K; (try simp only [Act.put, lq1, lq2, lq3, lq4, lq5, lq6]); refine wpAnyH_done (by kernel_rfl) ?_ _; go_wp2
                        go_roundw
                        case rel => exact ⟨j + 1, _, by omega, by go_num, Lib.hid (by rw [← HOS1.out]; exact HF9.out)⟩
                        case measure => simp [intOf]; omega
                      · skip
                        (try simp only [lq1, lq2, lq3]); go_simp; have HR5 := Lib.hid (HR4.out.nw ((Fr.refl _ r4).alloc (.cells #[.int .i64 (v1 : Nat), .int .i64 (v2 : Nat), .int .i64 (v3 : Nat), .int .i64 (v4 : Nat), .bool xp] 75))); refine hK.out _ _ HR5.out.five (fun hHeld => ?_); clear hK K; (try simp only [Act.put, lq1, lq2, lq3, lq4, lq5, lq6]); refine rdO (i := 1) (fun K hK => ?_); obtain ⟨d0, _, _, _⟩ := box2_c HR5.out.box; (try simp only [lq1, lq2, lq3]); go_simp; refine hK.out _ _ HR5.out.five (fun hHeld => ?_); clear hK K; (try simp only [Act.put, lq1, lq2, lq3, lq4, lq5, lq6])
                        refine rdO (i := 22) (fun K hK => ?_); (try simp only [lq1, lq2, lq3]); have HOV := Lib.hid HR4.out.own; rw [← HOL.out] at HOV; rw [if_pos (by rfl)]
                        refine wp_append_lies _ _ _ 22 rfl w7.heap.size 75 i5 (.agg #[.int .i64 0, .int .i64 0, .int .i64 0, .int .i64 0, .bool false]) 5 40 Tryz.underlying22 hi5 hz50 hz51 hz52 rfl (by decide) _ ol (crCells (Kn.numbered X os)) rfl (World.ownsRow.alloc HOV.out _) ⟨r4.heap.size, 0, none⟩ 1 1 [.int .i64 (v1 : Nat), .int .i64 (v2 : Nat), .int .i64 (v3 : Nat), .int .i64 (v4 : Nat), .bool xp] rfl rfl (five_cells rfl) (one_five _ _ _ _ _) (by omega) (by unfold maxLen; omega) (by omega) (by have := HR4.out.new.size; simp only [World.size_alloc]; omega) _ rfl ?_
                        intro g cap w9 hown hgrow _ _
                        obtain ⟨hbD, hbC⟩ := HR4.out.app hown hgrow HSB.out; have HF9 := Lib.hid (HR4.out.end_ (c := c) HN5.out HRN.out (by rw [← HOL.out]; exact hown) hgrow); obtain ⟨f0, _, f2, _⟩ := box2_c hbD; have HBC := Lib.hid hbC
                        have hne : ¬ Bc = D := fun e => by subst e; rw [hbD] at hbC; simp at hbC
                        have HBC2 := Lib.hid (((Fr.refl (fun k => k = D) w9).setCell (a := ⟨D, 0, none⟩) (.inl rfl) (.slice (some ⟨g, 0, none⟩) (ol + 1) cap)).blk hbC hne); clear hown hgrow hbD hbC hne; refine hK.out _ _ ⟨cell_of_row _ _ 0 _ 75 (0, 0) HBC.out, cell_of_row _ _ 1 _ 75 (0, 0) HBC.out, cell_of_row _ _ 2 _ 75 (0, 0) HBC.out, cell_of_row _ _ 3 _ 75 (0, 0) HBC.out, cell_of_row _ _ 4 _ 75 (0, 0) HBC.out⟩ (fun hHeld => ?_); clear hK K; (try simp only [Act.put, lq4, lq5, lq6]); refine' tkO (i := 23) ?_; simp only [Act.put, lq1, lq2, lq3, lq4, lq5, lq6]
                        refine rdO (i := 24) (fun K hK => ?_); (try simp only [lq1, lq2, lq3]); go_simp; refine hK.out _ _ ⟨cell_of_row _ _ 0 _ 75 (0, 0) HBC2.out, cell_of_row _ _ 1 _ 75 (0, 0) HBC2.out, cell_of_row _ _ 2 _ 75 (0, 0) HBC2.out, cell_of_row _ _ 3 _ 75 (0, 0) HBC2.out, cell_of_row _ _ 4 _ 75 (0, 0) HBC2.out⟩ (fun hHeld => ?_); clear hK K; (try simp only [Act.put, lq1, lq2, lq3, lq4, lq5, lq6]); refine wpAnyH_done (by kernel_rfl) ?_ _; go_wp2
                        go_roundw
                        case rel => exact ⟨j + 1, _, by omega, by go_num, Lib.hid (by rw [← HOS1.out]; exact HF9.out)⟩
                        case measure => simp [intOf]; omega
            · obtain rfl : j = k := by omega
              go_wp2
              go_roundw
              case rel => exact ⟨q + 1, sd, by omega, by go_num, Lib.hid (by
                rw [oq_succ (by rw [List.length_map]; exact hqt), List.getElem_map, ← HT.out]; have := HCj.out; rw [HK.out, List.take_length] at this
                exact this)⟩
              case measure => simp [intOf]; omega
        · obtain rfl : q = m := by omega
          obtain ⟨a3, c3, rfl, _⟩ := own_shape2 HC.out.own; have hF7 : New wa wr := HN7.out.trans HC.out.new
          have hb0 := hF7.blk HRES.out fun x => x
          obtain ⟨ol, HOL⟩ : ∃ ol, Hid (ol = (oq (ts'.map (·.2)) q).length) := ⟨_, Lib.hid rfl⟩
          have hbD := HC.out.box; rw [← HOL.out] at hbD; obtain ⟨d0, d1, _, _⟩ := box2_c hbD; have hb1 := (box2_set hb0 (.slice a3 ol c3)).1; have hb2 := (box2_set hb1 (.int .i64 L)).2; obtain ⟨e0, _, z0, _⟩ := box2_c hb0; obtain ⟨_, e1, _, z1⟩ := box2_c hb1; obtain ⟨m5, m6, _, _⟩ := box2_c hb2; have HB0 := Lib.hid hb0; have HF7 := Lib.hid hF7; clear hb0 hb1 hb2 hbD hF7; go_wp2
          refine bodyPost_ret (v := .agg #[.slice a3 ol c3, .int .i64 L]) (by simp [results, Tryz.results26, go_sem, m5, m6]) rfl ⟨_, rfl, ?_, ?_⟩
          all_goals
            have hF : Fr (fun k => k = w.heap.size) wr ((wr.setCell ⟨w.heap.size, 0, none⟩ (.slice a3 ol c3)).setCell ⟨w.heap.size, 1, none⟩ (.int .i64 L)) := by refine Fr.setCell (Fr.setCell (Fr.refl _ wr) ?_ _) ?_ _ <;> exact .inl rfl
          · have h1 := HC.out.own
            have h2 : oq (ts'.map (·.2)) q = (ts'.map (·.2)).flatMap (·.1) := by
              unfold oq
              rw [List.take_of_length_le (by rw [List.length_map]; have := HM'.out; omega)]
            rw [← HOL.out, h2, HFO.out] at h1
            have h3 : ol = (Kn.formL X).length := by rw [HOL.out, h2, HX.out.form_len, HLT.out]
            rw [← h3]
            exact own_base (hF.owns h1 fun k hk e => blk_not_own HB0.out h1 (by decide) (e ▸ hk)) (by have := HNA.out.size; have := HN7.out.size; omega)
          · exact (HNA.out.trans HF7.out).next hF fun i hi => .inr (by rw [hi]; exact Nat.le_refl _)
end Go.Proofs.YtgjmjbgicfkojaaGreat
