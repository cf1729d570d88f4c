/- Walks: Planar. -/
import Derived.Test.YtlicglicfijelaaW14
namespace Go.Proofs.Ytlicglicfijelaa
open Go.RowKit

def doneL (P : List (List Nat)) (i k : Nat) : List Nat := (P.take i).flatten ++ ((P.getD i []).take k)
theorem doneL_step {P : List (List Nat)} {i k : Nat} (hi : i < P.length) (hk : k < P[i].length) : doneL P i (k + 1) = doneL P i k ++ [P[i][k]] := by
  unfold doneL
  rw [List.getD_eq_getElem?_getD, List.getElem?_eq_getElem hi]
  simp only [Option.getD_some]
  rw [List.take_succ_eq_append_getElem hk, List.append_assoc]
theorem doneL_next {P : List (List Nat)} {i : Nat} (hi : i < P.length) : doneL P i P[i].length = doneL P (i + 1) 0 := by
  unfold doneL
  rw [List.getD_eq_getElem?_getD, List.getElem?_eq_getElem hi]
  simp only [Option.getD_some]
  rw [List.take_length, List.take_zero, List.append_nil, List.take_succ_eq_append_getElem hi, List.flatten_append]
  simp
/- how many of the first faces lie at a piece -/
def faceN (X : List Kn.Cr) (q i : Nat) : Nat := ((Kn.facesL X).take q).countP fun f => decide (Kn.pieceAt X (Kn.head X (f.headD (0, false))).1 = i)
theorem faceN_succ {X : List Kn.Cr} {q i : Nat} (hq : q < (Kn.facesL X).length) : faceN X (q + 1) i = faceN X q i + if Kn.pieceAt X (Kn.head X ((Kn.facesL X)[q].headD (0, false))).1 = i then 1 else 0 := by
  unfold faceN
  rw [List.take_succ_eq_append_getElem hq, List.countP_append]
  simp [List.countP_cons]
theorem faceN_le (X : List Kn.Cr) (q i : Nat) : faceN X q i ≤ q := by
  unfold faceN
  exact Nat.le_trans List.countP_le_length (by rw [List.length_take]; omega)
structure PlA (w wr : World) (mb : Nat) (X : List Kn.Cr) (done : List Nat) (v : Value) : Prop where
  new : New w wr
  map : NumMap wr mb done.length done (Kn.pieceAt X)
  rows : Rows OwnN 0 80 wr v (Kn.piecesL X)
theorem Rows.base0 {α : Type} {R : World → Value → α → Prop} {base e : Nat} {w : World} {v : Value} {ll : List α} (h : Rows R base e w v ll) : Rows R 0 e w v ll := by
  obtain ⟨vs, h1, h2⟩ := h
  exact ⟨vs, own0 h1, h2⟩
theorem RowsN.map {w w' : World} {mb : Nat} {v : Value} {ll : List (List Nat)} {es : Array MapEntry} {ck : Nat} (h : Rows OwnN 0 80 w v ll) (hm : w.heap[mb]? = some (.map es ck)) (hf : Fr (fun k => k = mb) w w') : Rows OwnN 0 80 w' v ll := by
  obtain ⟨vs, h1, h2⟩ := h
  exact ⟨vs, hf.owns h1 (own_not_map h1 hm), h2.mono fun v l hn => hf.owns hn (own_not_map (show w.ownsRow 0 3 1 v l.length (nums l) from hn) hm)⟩
theorem RowsN.new {w w' : World} {b : Nat} {v : Value} {ll : List (List Nat)} (h : Rows OwnN b 80 w v ll) (hf : New w w') : Rows OwnN b 80 w' v ll := h.new hf fun _ _ x => hf.owns x fun _ _ y => y
theorem RowsD.new {w w' : World} {b : Nat} {v : Value} {ll : List (List Kn.Dt)} (h : Rows OwnD b 104 w v ll) (hf : New w w') : Rows OwnD b 104 w' v ll := h.new hf fun _ _ x => hf.owns x fun _ _ y => y
theorem done_few {X : List Kn.Cr} (hX : Kn.Ok X) {i k : Nat} (hi : i ≤ (Kn.piecesL X).length) : (doneL (Kn.piecesL X) i k).length ≤ X.length := by
  have h1 := hX.pieces_perm.length_eq
  rw [List.length_range] at h1
  have : (doneL (Kn.piecesL X) i k).length ≤ (Kn.piecesL X).flatten.length := by
    unfold doneL
    by_cases c : i < (Kn.piecesL X).length
    · conv => rhs; rw [← List.take_append_drop i (Kn.piecesL X), List.flatten_append, List.drop_eq_getElem_cons c, List.flatten_cons]
      rw [List.getD_eq_getElem?_getD, List.getElem?_eq_getElem c]
      simp only [List.length_append, Option.getD_some, List.length_take]
      omega
    · rw [List.getD_eq_getElem?_getD, List.getElem?_eq_none (by omega)]
      simp only [Option.getD_none, List.take_nil, List.append_nil]
      rw [List.take_of_length_le (by omega)]
      exact Nat.le_refl _
  omega

set_option maxRecDepth 100000 in
set_option maxHeartbeats 8000000 in
theorem planar_any (b : Nat) (X : List Kn.Cr) (L : Int) (w : World) (h : ShAt w b X L) (hX : Kn.Ok X) (hl : X.length ≤ 16) :
    Calls Try.prog 36 #[.pointer (some ⟨b, 0, none⟩)] w fun e w' => e = .returned (.bool (Kn.planarB X)) ∧ New w w' := by
  have hmm := @run_makeMap Try.prog
  have HS := Lib.hid h
  have HX := Lib.hid hX
  have hpf := pieces_few X hX
  obtain ⟨np, HNP⟩ : ∃ np, Hid (np = (Kn.piecesL X).length) := ⟨_, Lib.hid rfl⟩
  have hnp : np ≤ 16 := by have := HNP.out; omega
  clear h hX hpf
  have hmk : ∀ w, (Instr.makeSlice 80 (.int .i64 (np : Int)) (.int .i64 (np : Int))).run Try.prog w = .ok (.slice (some ⟨w.heap.size, 0, none⟩) np np) (w.alloc (.cells (madeCells #[.int .i64 0] np) 3)) := fun w =>
    run_make_row' (P := Try.prog) 80 3 (.int .i64 0) 8 Try.underlying80 Try.info3 rfl .i64 .i64 np (by omega) (by omega) w
  have hfld : ∀ (x y : Int) (w : World), (Instr.field 66 (.agg #[.int .i64 x, .int .i64 y]) 0).run Try.prog w = .ok (.int .i64 x) w := fun x y w => by kernel_rfl
  go_enter Try.func36, Try.ntmps36
  go_wp2_with (go_at_call 48; refine (pieces_any b X L _ (New.shAt ((Fr.refl _ _).alloc _) HS.out) HX.out hl).mono ?_; rintro e w1 ⟨v, rfl, hr, hF⟩; obtain ⟨a1, c1, rfl⟩ := hr.sl; rw [← HNP.out]; have HR := Lib.hid hr.base0; have HF := Lib.hid hF; clear hr hF)
  have HA0 : Hid (PlA w w1 w.heap.size X [] (.slice a1 np c1)) := Lib.hid ⟨((Fr.refl _ _).alloc _).trans HF.out, (NumMap.made w (Kn.pieceAt X)).fr (S := fun _ => False) HF.out (fun x => x), by rw [HNP.out]; exact HR.out⟩
  go_loopw [19] (fun i wr => ∃ q : Nat, q ≤ np ∧ i = .int .i64 q ∧ Hid (PlA w wr w.heap.size X (doneL (Kn.piecesL X) q 0) (.slice a1 np c1))) (fun i _ => np - (intOf i).toNat)
  case atStart => exact ⟨0, by omega, rfl, HA0⟩
  case round =>
    obtain ⟨q, hq, rfl, HA⟩ := hrel
    by_cases hlt : q < np
    · have hqP : q < (Kn.piecesL X).length := by have := HNP.out; omega
      obtain ⟨g, c, u, he, hcell, hown⟩ := HA.out.rows.at hqP
      rw [← HNP.out] at he
      cases he
      obtain ⟨a2, c2, rfl⟩ := hown.sl
      have HOWN := Lib.hid hown
      obtain ⟨m, HM⟩ : ∃ m, Hid (m = (Kn.piecesL X)[q].length) := ⟨_, Lib.hid rfl⟩
      rw [← HM.out] at hcell
      have i1 : (0 : Int) ≤ (q : Int) := by omega
      have i2 : (q : Int) < (np : Int) := by omega
      have hm16 : m ≤ 16 := by
        have h1 := (HX.out.pieces_is _ (List.getElem_mem hqP)).le
        have := HM.out
        omega
      clear hown
      go_wp2
      clear hcell
      obtain ⟨wo, rfl⟩ : ∃ wo, wo = wr := ⟨_, rfl⟩
      go_loopw [26] (fun i wr => ∃ k : Nat, k ≤ m ∧ i = .int .i64 k ∧ Hid (PlA w wr w.heap.size X (doneL (Kn.piecesL X) q k) (.slice (some ⟨g, 0, none⟩) np c1)) ∧ Hid (OwnN wr (.slice a2 m c2) (Kn.piecesL X)[q])) (fun i _ => m - (intOf i).toNat)
      case atStart => exact ⟨0, by omega, rfl, HA, by rw [HM.out]; exact HOWN⟩
      case round =>
        obtain ⟨k, hk, rfl, HAk, HOk⟩ := hrel
        by_cases hkm : k < m
        · have hkP : k < (Kn.piecesL X)[q].length := by have := HM.out; omega
          obtain ⟨g3, c3, he3, hc3⟩ := HOk.out.at hkP
          rw [← HM.out] at he3
          cases he3
          obtain ⟨x, HXx⟩ : ∃ x, Hid (x = (Kn.piecesL X)[q][k]) := ⟨_, Lib.hid rfl⟩
          rw [← HXx.out] at hc3
          have hxm : x ∈ (Kn.piecesL X)[q] := by rw [HXx.out]; exact List.getElem_mem hkP
          have hpa : Kn.pieceAt X x = q := pieceAt_eq HX.out hqP hxm
          have hx16 : x ≤ 1000 := by have := piece_lt HX.out hqP hxm; omega
          have HPA := Lib.hid hpa
          obtain ⟨D, hown, hm1, hm2⟩ := HAk.out.map
          have hdl := done_few HX.out (i := q) (k := k) (by omega)
          have hdl2 : (doneL (Kn.piecesL X) q k).length < maxLen := by unfold maxLen; omega
          have HDL := Lib.hid hdl2
          have HOWM := Lib.hid hown
          have HM1 := Lib.hid hm1
          have HM2 := Lib.hid hm2
          have HW := Lib.hid (wfN hx16)
          have HWq := Lib.hid (wfN (x := q) (by omega))
          have i3 : (0 : Int) ≤ (k : Int) := by omega
          have i4 : (k : Int) < (m : Int) := by omega
          clear hxm hpa hown hm1 hm2 hdl hdl2
          go_wp2_with (at_mapUpdate; refine wpList_mapUpdate_own _ rfl _ _ _ 101 rfl 3 3 Try.law3 Try.ul101 _ w.heap.size (doneL (Kn.piecesL X) q k).length _ rfl HOWM.out HDL.out _ _ _ rfl rfl (Maps.keyOf_int_mk Try.underlying3 HW.out) _ [] (plainElem_int Try.underlying3 HWq.out) ?_; intro w5 hown5 hg5; have HO5 := Lib.hid hown5; have HG5 := Lib.hid hg5; clear hown5 hg5)
          go_roundw
          case rel =>
            obtain ⟨es, ck, hmb⟩ := HAk.out.map.block
            have hF5 : Fr (fun k => k = w.heap.size) wr w5 := (Fr.refl _ wr).grown HG5.out fun j e => .inl (Option.some.inj e).symm
            refine ⟨k + 1, by omega, by go_num, Lib.hid ⟨HAk.out.new.next hF5 fun i hi => .inr (by rw [hi]; exact Nat.le_refl _), ?_, RowsN.map HAk.out.rows hmb hF5⟩, Lib.hid (hF5.owns HOk.out (own_not_map (show wr.ownsRow 0 3 1 _ _ _ from HOk.out) hmb))⟩
            rw [doneL_step hqP hkP, ← HXx.out, List.length_append, List.length_singleton]
            have := HO5.out
            exact NumMap.put HM1.out HM2.out (by rw [HPA.out]; exact this)
          case measure => simp [intOf]; omega
        · obtain rfl : k = m := by omega
          go_wp2
          go_roundw
          case rel => exact ⟨q + 1, by omega, by go_num, by rw [← doneL_next hqP, ← HM.out]; exact HAk⟩
          case measure => simp [intOf]; omega
    · obtain rfl : q = np := by omega
      obtain ⟨wm, rfl⟩ : ∃ wm, wm = wr := ⟨_, rfl⟩
      obtain ⟨nf, HNF⟩ : ∃ nf, Hid (nf = (Kn.facesL X).length) := ⟨_, Lib.hid rfl⟩
      have hnf : nf ≤ 64 := by
        have h1 := Kn.rings_len (Kn.left X) (4 * X.length + 1) (Kn.darts X) []
        rw [Kn.darts_length] at h1
        have := HNF.out
        unfold Kn.facesL at this
        omega
      go_wp2_with (go_at_call 49; refine (faces_any b X L _ (New.shAt (HA.out.new.alloc _) HS.out) HX.out hl).mono ?_; rintro e w2 ⟨vf, rfl, hrf, hF2⟩; obtain ⟨af, cf, rfl⟩ := hrf.sl; rw [← HNF.out]; have HRF := Lib.hid hrf; have HF2 := Lib.hid hF2; clear hrf hF2)
      have HM2 : Hid (New wm w2) := Lib.hid (((Fr.refl _ wm).alloc _).trans HF2.out)
      have HR2 : Hid (w2.rowIs wm.heap.size 3 q (numFn (faceN X 0))) := Lib.hid (rowIs_congr (HF2.out.row (World.rowIs_made wm (.int .i64 0) q 3) fun x => x) fun j _ => rfl)
      go_loopw [41] (fun i wr => ∃ k : Nat, k ≤ nf ∧ i = .int .i64 k ∧ Hid (Fr (fun j => j = wm.heap.size) w2 wr) ∧ Hid (wr.rowIs wm.heap.size 3 q (numFn (faceN X k)))) (fun i _ => nf - (intOf i).toNat)
      case atStart => exact ⟨0, by omega, rfl, Lib.hid (Fr.refl _ _), HR2⟩
      case round =>
        obtain ⟨k, hk, rfl, HFr, HRow⟩ := hrel
        have HNw : Hid (New wm wr) := Lib.hid (HM2.out.next HFr.out fun i hi => .inr (by rw [hi]; exact Nat.le_refl _))
        by_cases hkf : k < nf
        · have hkF : k < (Kn.facesL X).length := by have := HNF.out; omega
          have hrows : Rows OwnD 0 104 wr (.slice af nf cf) (Kn.facesL X) := by
            obtain ⟨vs, h1, h2⟩ := HRF.out
            rw [← HNF.out] at h1
            exact ⟨vs, own0 (HFr.out.owns h1 (own_ne h1 HR2.out (by decide))), h2.mono fun v l hn => HFr.out.owns hn (own_ne (show w2.ownsRow 0 107 2 v l.length (dcells l) from hn) HR2.out (by decide))⟩
          obtain ⟨g, c, u, he, hcell, hown⟩ := hrows.at hkF
          rw [← HNF.out] at he
          cases he
          obtain ⟨d, rest, hd⟩ : ∃ d rest, (Kn.facesL X)[k] = d :: rest := by
            have hne := Kn.rings_ne (Kn.left X) (N := 4 * X.length + 1) (by omega) (Kn.darts X) [] _ (List.getElem_mem hkF)
            cases hq : (Kn.facesL X)[k] with
            | nil => exact absurd hq hne
            | cons d rest => exact ⟨d, rest, rfl⟩
          have hda : Kn.isArc X d.1 := Kn.mem_darts.1 ((Kn.faces_perm HX.out).mem_iff.1 (List.mem_flatten.2 ⟨_, List.getElem_mem hkF, by rw [hd]; simp⟩))
          rw [hd] at hown
          obtain ⟨g2, c2, rfl, hc1, hc2⟩ := hown.first
          obtain ⟨da, db⟩ := d
          simp only at hc1 hc2 hda
          obtain ⟨hcr, hs, hhd⟩ : ∃ hcr hs, Kn.head X (da, db) = (hcr, hs) := ⟨_, _, rfl⟩
          have hcl : hcr < X.length := by
            have := (HX.out.isPl_head (d := (da, db)) hda).1
            rw [hhd] at this
            exact this
          obtain ⟨pi, hpi⟩ : ∃ pi, pi = Kn.pieceAt X hcr := ⟨_, rfl⟩
          have hmem : hcr ∈ (Kn.piecesL X).flatten := (HX.out.pieces_perm.mem_iff).2 (List.mem_range.2 hcl)
          have hpl : pi < q := by
            rw [hpi, HNP.out]
            unfold Kn.pieceAt
            rw [List.findIdx_lt_length]
            obtain ⟨l, h1, h2⟩ := List.mem_flatten.1 hmem
            exact ⟨l, h1, by simpa using h2⟩
          have hrow := HRow.out.cell (i := pi) hpl
          obtain ⟨cn, HCN⟩ : ∃ cn, Hid (cn = faceN X k pi) := ⟨_, Lib.hid rfl⟩
          unfold numFn at hrow
          rw [← HCN.out] at hrow
          have hcn : cn ≤ 64 := by have := faceN_le X k pi; have := HCN.out; omega
          have hdone : hcr ∈ doneL (Kn.piecesL X) q 0 := by
            unfold doneL
            rw [List.take_of_length_le (by have := HNP.out; omega)]
            simp only [List.take_zero, List.append_nil]
            exact hmem
          have HDONE := Lib.hid hdone
          have HPI := Lib.hid hpi
          have HHD := Lib.hid hhd
          have HD := Lib.hid hd
          have HDA := Lib.hid hda
          have HCL := Lib.hid hcl
          have i1 : (0 : Int) ≤ (k : Int) := by omega
          have i2 : (k : Int) < (nf : Int) := by omega
          have i3 : (0 : Int) ≤ (pi : Int) := by omega
          have i4 : (pi : Int) < (q : Int) := by omega
          have i5 : 0 < rest.length + 1 := by omega
          clear hown hrows hd hda hhd hcl hpi hmem hdone
          go_wp2_with (go_at_call 50; refine (head_any b da db X L _ (New.shAt (HA.out.new.trans HNw.out) HS.out) hl HDA.out).mono ?_; rintro e w5 ⟨rfl, hE⟩; rw [HHD.out]; have hrun := ((HA.out.map.fr HNw.out fun x => x).fr hE fun x => x).look HDONE.out (by have := HCL.out; omega); rw [← HPI.out] at hrun; have hr5 := hE.cell hrow fun x => x; have hf5 := (hE.row HRow.out fun x => x).frozen pi; have HE := Lib.hid hE; clear hE)
          go_roundw
          case rel =>
            have hrow5 := HE.out.row HRow.out fun x => x
            refine ⟨k + 1, by omega, by go_num, Lib.hid ((HFr.out.trans (HE.out.mono fun _ h => h.elim)).setCell (.inl rfl) _), Lib.hid (rowIs_congr (rowIs_setN hrow5 pi (cn + 1)) fun j _ => ?_)⟩
            have hpp : Kn.pieceAt X (Kn.head X ((Kn.facesL X)[k].headD (0, false))).1 = pi := by
              have e1 : ((Kn.facesL X)[k].headD (0, false)) = (da, db) := by rw [HD.out]; rfl
              rw [e1, HHD.out, HPI.out]
            unfold numFn
            rw [faceN_succ hkF, hpp]
            by_cases e : j = pi
            · subst e; simp [HCN.out]
            · have e2 : ¬ pi = j := fun h => e h.symm
              rw [if_neg e2]; simp only [if_neg e]; rfl
          case measure => simp [intOf]; omega
        · obtain rfl : k = nf := by omega
          have hrow4 : wr.rowIs wm.heap.size 3 q (numFn fun i => Kn.facesAt X i) := rowIs_congr HRow.out fun j _ => by
            unfold numFn faceN Kn.facesAt
            rw [List.take_of_length_le (by have := HNF.out; omega)]
          have HR4 := Lib.hid hrow4
          have hprow := RowsN.new HA.out.rows HNw.out
          have HPR := Lib.hid hprow
          clear hrow4 hprow
          go_wp2
          obtain ⟨wz, rfl⟩ : ∃ wz, wz = wr := ⟨_, rfl⟩
          go_loop [61] (fun i => ∃ j : Nat, j ≤ q ∧ i = .int .i64 j ∧ Hid (∀ x, x < j → Kn.facesAt X x = ((Kn.piecesL X).getD x []).length + 2)) (fun i => q - (intOf i).toNat)
          case atStart => exact ⟨0, by omega, rfl, Lib.hid fun x hx => by omega⟩
          case round =>
            obtain ⟨j, hj, rfl, HAll⟩ := hrel
            by_cases hjq : j < q
            · have hjP : j < (Kn.piecesL X).length := by have := HNP.out; omega
              obtain ⟨g5, c5, u5', he5, hcell5, hown5⟩ := HPR.out.at hjP
              rw [← HNP.out] at he5
              cases he5
              obtain ⟨a6, c6, rfl⟩ := hown5.sl
              obtain ⟨m, HM⟩ : ∃ m, Hid (m = (Kn.piecesL X)[j].length) := ⟨_, Lib.hid rfl⟩
              rw [← HM.out] at hcell5
              have hm16 : m ≤ 16 := by
                have h1 := (HX.out.pieces_is _ (List.getElem_mem hjP)).le
                have := HM.out
                omega
              have hfc := HR4.out.cell (i := j) hjq
              obtain ⟨fa, HFA⟩ : ∃ fa, Hid (fa = Kn.facesAt X j) := ⟨_, Lib.hid rfl⟩
              simp only [numFn] at hfc
              rw [← HFA.out] at hfc
              have hgd : ((Kn.piecesL X).getD j []).length = m := by rw [List.getD_eq_getElem?_getD, List.getElem?_eq_getElem hjP, HM.out]; rfl
              have HGD := Lib.hid hgd
              have i1 : (0 : Int) ≤ (j : Int) := by omega
              have i2 : (j : Int) < (q : Int) := by omega
              clear hown5 hgd
              by_cases hfm : fa = m + 2
              · have HFM := Lib.hid hfm
                subst hfm
                have e0 : (((m + 2 : Nat) : Int) != (m : Int) + 2) = false := by simp
                have e0' : ((m : Int) + 2 != (m : Int) + 2) = false := by simp
                go_wp2
                go_round
                case rel =>
                  refine ⟨j + 1, by omega, by go_num, Lib.hid fun x hx => ?_⟩
                  by_cases e : x = j
                  · subst e
                    rw [HGD.out, ← HFA.out]
                  · exact HAll.out x (by omega)
                case measure => simp [intOf]; omega
              · have e0 : ((fa : Int) != (m : Int) + 2) = true := by simp; omega
                have hno : Kn.planarB X = false := by
                  rw [Bool.eq_false_iff]
                  intro hp
                  have := List.all_eq_true.1 hp j (List.mem_range.2 hjP)
                  rw [decide_eq_true_eq, HGD.out, ← HFA.out] at this
                  exact hfm this
                have HNO := Lib.hid hno
                clear hno hfm
                go_wp2
                go_ret
                exact ⟨ret_bool HNO.out.symm, HA.out.new.trans HNw.out⟩
            · obtain rfl : j = q := by omega
              have hyes : Kn.planarB X = true := List.all_eq_true.2 fun x hx => decide_eq_true (HAll.out x (by have := List.mem_range.1 hx; have := HNP.out; omega))
              have HY := Lib.hid hyes
              clear hyes
              go_wp2
              go_ret
              exact ⟨ret_bool HY.out.symm, HA.out.new.trans HNw.out⟩
end Go.Proofs.Ytlicglicfijelaa
