/- Walks: low. -/
import Derived.Test.YtlicglicfijelaaW15
import Derived.Test.YtlicglicfijelaaW9N
import Derived.Test.YtlicglicfijelaaN8
import Derived.Test.YtlicglicfijelaaMAllc
namespace Go.Proofs.Ytlicglicfijelaa
open Go.RowKit

/- the first letter below, as it is looked for -/
def scanB : List Nat → List Nat → Option Nat
  | _, [] => none
  | l, a :: F => if a / 2 ∉ l ∧ a % 2 = 0 then some (a / 2) else scanB (l ++ [a / 2]) F
theorem scan_fv : ∀ (F seen l : List Nat), (∀ c, c ∈ seen ↔ c ∈ l) → ((Kn.fv seen F).find? Kn.evB).map (· / 2) = scanB l F
  | [], _, _, _ => rfl
  | a :: F, seen, l, h => by
    rw [Kn.fv, scanB]
    by_cases c : a / 2 ∈ seen
    · rw [if_pos c, if_neg fun k => k.1 ((h _).1 c)]
      refine scan_fv F seen _ fun d => ?_
      rw [List.mem_append, ← h d, List.mem_singleton]
      exact ⟨.inl, fun k => k.elim (fun k => k) fun k => by rw [k]; exact c⟩
    · rw [if_neg c]
      have c' : a / 2 ∉ l := fun k => c ((h _).2 k)
      by_cases e : a % 2 = 0
      · rw [if_pos ⟨c', e⟩, List.find?_cons_of_pos (by simp [Kn.evB, e])]; rfl
      · rw [if_neg fun k => e k.2, List.find?_cons_of_neg (by simp [Kn.evB, e])]
        refine scan_fv F _ _ fun d => ?_
        rw [List.mem_cons, List.mem_append, ← h d, List.mem_singleton]
        exact ⟨fun k => k.elim .inr .inl, fun k => k.elim .inr .inl⟩
theorem low_scan (X : List Kn.Cr) : Kn.lowX X = scanB [] ((Kn.strandsL X).flatten.map (Kn.la X)) := scan_fv _ [] [] fun c => by simp
def lowZ (X : List Kn.Cr) : Int := match Kn.lowX X with
  | none => -1
  | some k => (k : Nat)
set_option maxRecDepth 100000 in
set_option maxHeartbeats 4000000 in
theorem low_any (b : Nat) (X : List Kn.Cr) (L : Int) (w : World) (h : ShAt w b X L) (hX : Kn.Ok X) (hl : X.length ≤ 16) :
    Calls Try.prog 25 #[.pointer (some ⟨b, 0, none⟩)] w fun e w' => e = .returned (.tuple #[.int .i64 (lowZ X), .int .i64 ((Kn.strandsL X).length : Nat)]) ∧ New w w' := by
  have HS := Lib.hid h
  have HX := Lib.hid hX
  have hmm := @run_makeMap Try.prog
  obtain ⟨np, HNP⟩ : ∃ np, Hid (np = (Kn.strandsL X).length) := ⟨_, Lib.hid rfl⟩
  have hpf : ((Kn.strandsL X).flatten).length = 2 * X.length := by rw [(Kn.strands_perm hX).length_eq, Kn.arcs_length]; rfl
  have hnp : np ≤ 1000 := by
    have h1 : (Kn.strandsL X).length ≤ ((Kn.strandsL X).flatten).length := by
      have gen : ∀ ll : List (List Nat), (∀ r ∈ ll, r ≠ []) → ll.length ≤ ll.flatten.length := by
        intro ll
        induction ll with
        | nil => intro _; simp
        | cons r ll ih =>
          intro hr
          have h2 := ih fun r h => hr r (by simp [h])
          have h3 : 0 < r.length := List.length_pos_iff.2 (hr r (by simp))
          rw [List.flatten_cons, List.length_append, List.length_cons]; omega
      exact gen _ (Kn.strands_ne X)
    have := HNP.out
    omega
  have HPF := Lib.hid hpf
  clear h hX hpf
  obtain ⟨mb, HMB⟩ : ∃ z, Hid (z = w.heap.size) := ⟨_, Lib.hid rfl⟩
  obtain ⟨wa, HWA⟩ : ∃ z, Hid (z = w.alloc (.map #[] 0)) := ⟨_, Lib.hid rfl⟩
  have HNa : Hid (New w wa) := Lib.hid (by rw [HWA.out]; exact (Fr.refl _ _).alloc _)
  have HLa : Hid (LeftMap wa mb []) := Lib.hid (by rw [HWA.out, HMB.out]; exact LeftMap.made w)
  go_enter Try.func25, Try.ntmps25
  go_wp2_with fail
  rw [← HWA.out, ← HMB.out]
  refine (strands_any b X L _ (New.shAt HNa.out HS.out) HX.out hl).mono ?_
  rintro e w1 ⟨v, rfl, hr, hF⟩
  obtain ⟨a1, c1, rfl⟩ := hr.sl
  rw [← HNP.out]
  have HR1 : Hid (Rows OwnN 0 80 w1 (.slice a1 np c1) (Kn.strandsL X)) := Lib.hid (by rw [HNP.out]; exact hr.base0)
  have HN1 : Hid (New w w1) := Lib.hid (HNa.out.trans hF)
  have HL1 : Hid (LeftMap w1 mb []) := Lib.hid (HLa.out.fr hF fun x => x)
  clear hr hF
  go_wp2_with fail
  go_loopw [16] (fun i wr => ∃ (q : Nat) (l : List Nat), q ≤ np ∧ i = .int .i64 q ∧ l.length + (((Kn.strandsL X).drop q).flatten).length ≤ 64 ∧ Hid (LeftMap wr mb l) ∧ Hid (Fr (fun k => k = mb) w1 wr) ∧ Hid (Kn.lowX X = scanB l ((((Kn.strandsL X).drop q).flatten).map (Kn.la X)))) (fun i _ => np - (intOf i).toNat)
  case atStart => exact ⟨0, [], by omega, rfl, by rw [List.drop_zero, HPF.out]; simp; omega, HL1, Lib.hid (Fr.refl _ _), Lib.hid (low_scan X)⟩
  case round =>
    obtain ⟨q, l, hq, rfl, hlen, HL, HF, HSC⟩ := hrel
    by_cases hlt : q < np
    · have hqP : q < (Kn.strandsL X).length := by have := HNP.out; omega
      have hrr : Rows OwnN 0 80 wr (.slice a1 np c1) (Kn.strandsL X) := by
        obtain ⟨es, ck, hb⟩ := HL1.out.block
        exact RowsN.map HR1.out hb HF.out
      obtain ⟨g, c, u, he, hcell, hown⟩ := hrr.at hqP
      rw [← HNP.out] at he
      cases he
      obtain ⟨a2, c2, rfl⟩ := hown.sl
      obtain ⟨m, HM⟩ : ∃ m, Hid (m = (Kn.strandsL X)[q].length) := ⟨_, Lib.hid rfl⟩
      rw [← HM.out] at hcell hown
      obtain ⟨R, HRR⟩ : ∃ R, Hid (R = ((Kn.strandsL X).drop (q + 1)).flatten) := ⟨_, Lib.hid rfl⟩
      have e1 : ((Kn.strandsL X).drop q).flatten = (Kn.strandsL X)[q] ++ R := by rw [List.drop_eq_getElem_cons hqP, List.flatten_cons, HRR.out]
      rw [e1] at hlen
      have HSC0 : Hid (Kn.lowX X = scanB l (((Kn.strandsL X)[q].drop 0 ++ R).map (Kn.la X))) := Lib.hid (by rw [List.drop_zero, ← e1]; exact HSC.out)
      have HOWN := Lib.hid hown
      have i1 : (0 : Int) ≤ (q : Int) := by omega
      have i2 : (q : Int) < (np : Int) := by omega
      have hm64 : m ≤ 64 := by rw [List.length_append] at hlen; have := HM.out; omega
      have hlen0 : l.length + ((Kn.strandsL X)[q].drop 0 ++ R).length ≤ 64 := by rw [List.drop_zero]; exact hlen
      clear hown hrr e1 hlen
      go_wp2
      clear hcell
      obtain ⟨wo, rfl⟩ : ∃ wo, wo = wr := ⟨_, rfl⟩
      go_loopw [22] (fun i wr => ∃ (k : Nat) (l : List Nat), k ≤ m ∧ i = .int .i64 k ∧ l.length + ((Kn.strandsL X)[q].drop k ++ R).length ≤ 64 ∧ Hid (LeftMap wr mb l) ∧ Hid (Fr (fun k => k = mb) w1 wr) ∧ Hid (OwnN wr (.slice a2 m c2) (Kn.strandsL X)[q]) ∧ Hid (Kn.lowX X = scanB l (((Kn.strandsL X)[q].drop k ++ R).map (Kn.la X)))) (fun i _ => m - (intOf i).toNat)
      case atStart => exact ⟨0, l, by omega, rfl, hlen0, HL, HF, HOWN, HSC0⟩
      case round =>
        obtain ⟨k, l', hk, rfl, hln, HLk, HFk, HOk, HSk⟩ := hrel
        by_cases hkm : k < m
        · have hkP : k < (Kn.strandsL X)[q].length := by have := HM.out; omega
          obtain ⟨g3, c3, he3, hc3⟩ := (show OwnN wr (.slice a2 m c2) (Kn.strandsL X)[q] from HOk.out).at hkP
          rw [← HM.out] at he3
          cases he3
          obtain ⟨x, HXx⟩ : ∃ x, Hid (x = (Kn.strandsL X)[q][k]) := ⟨_, Lib.hid rfl⟩
          rw [← HXx.out] at hc3
          have hxa : Kn.isArc X x := Kn.strands_arc HX.out (List.getElem_mem hqP) (by rw [HXx.out]; exact List.getElem_mem hkP)
          have e2 : (Kn.strandsL X)[q].drop k ++ R = x :: ((Kn.strandsL X)[q].drop (k + 1) ++ R) := by rw [List.drop_eq_getElem_cons hkP, HXx.out]; rfl
          rw [e2] at hln
          have HS2 : Hid (Kn.lowX X = scanB l' ((x :: ((Kn.strandsL X)[q].drop (k + 1) ++ R)).map (Kn.la X))) := Lib.hid (by rw [← e2]; exact HSk.out)
          obtain ⟨pc, ps, hpp⟩ : ∃ pc ps, Kn.endP X true x = (pc, ps) := ⟨_, _, rfl⟩
          have hpl : Kn.isPl X (pc, ps) := by rw [← hpp]; exact HX.out.isPl_end hxa
          have hpc : pc < X.length := hpl.1
          have hla : Kn.la X x = 2 * pc + if ps = 0 then 0 else 1 := by unfold Kn.la; rw [hpp]; rfl
          have hd1 : Kn.la X x / 2 = pc := by rw [hla]; split <;> omega
          have hd2 : Kn.la X x % 2 = 0 ↔ ps = 0 := by rw [hla]; split <;> simp_all <;> omega
          have HD1 := Lib.hid hd1
          have HD2 := Lib.hid hd2
          have hNw : New w wr := HN1.out.next HFk.out fun i hi => .inr (by rw [hi, HMB.out]; exact Nat.le_refl _)
          obtain ⟨sv, bi, bo, base, s⟩ := New.shAt hNw HS.out
          have s2 := s.c2.2.2.1
          have hxm : x ≤ 2 * X.length := hxa.2
          have s3 := s.ri.cell (i := x * 2) (by unfold mArcs; omega)
          have s4 := s.ri.cell (i := x * 2 + 1) (by unfold mArcs; omega)
          have hin : Kn.inP X x = (pc, ps) := hpp
          rw [plFn_0, hin] at s3
          rw [plFn_1, hin] at s4
          simp only at s3 s4
          obtain ⟨ma, hma⟩ : ∃ ma, ma = mArcs X := ⟨_, rfl⟩
          have i5 : (0 : Int) ≤ (x : Int) := by omega
          have i6 : (x : Int) < (ma : Int) := by rw [hma]; unfold mArcs; omega
          rw [← hma] at s2
          have i3 : (0 : Int) ≤ (k : Int) := by omega
          have i4 : (k : Int) < (m : Int) := by omega
          have HNw := Lib.hid hNw
          obtain ⟨pz, hpz⟩ : ∃ pz : Int, pz = (ps : Int) := ⟨_, rfl⟩
          rw [← hpz] at s4
          have HPZ := Lib.hid hpz
          clear hNw hma hla hd1 hd2 hpl hpp hin hxm e2 s hpz
          have HLw : Hid (LeftMap (wr.alloc (.cells #[.int .i64 pc, .int .i64 pz] 66)) mb l') := Lib.hid (HLk.out.fr ((Fr.refl (fun _ => False) _).alloc _) fun x => x)
          have hlk := HLw.out.look (x := pc) (by omega)
          by_cases hret : pc ∉ l' ∧ ps = 0
          · obtain ⟨hr1, hr2⟩ := hret
            have hzb : (pz == 0) = true := by rw [HPZ.out, hr2]; rfl
            rw [decide_eq_false hr1] at hlk
            go_wp2
            go_ret2
            have e : lowZ X = (pc : Nat) := by
              unfold lowZ
              rw [HS2.out, List.map_cons, scanB, if_pos ⟨by rw [HD1.out]; exact hr1, HD2.out.2 hr2⟩, HD1.out]
            rw [e, ← HNP.out]
            exact ⟨rfl, HNw.out.alloc _⟩
          · have HRT := Lib.hid hret
            have HX2 : Hid (Kn.lowX X = scanB (l' ++ [pc]) (((Kn.strandsL X)[q].drop (k + 1) ++ R).map (Kn.la X))) := Lib.hid (by
              rw [HS2.out, List.map_cons, scanB, if_neg (by rw [HD1.out, HD2.out]; exact HRT.out), HD1.out])
            have hcase : pc ∈ l' ∨ (pc ∉ l' ∧ ¬ ps = 0) := by
              by_cases c : pc ∈ l'
              · exact .inl c
              · exact .inr ⟨c, fun k => hret ⟨c, k⟩⟩
            have hln' : l'.length + 1 + ((Kn.strandsL X)[q].drop (k + 1) ++ R).length ≤ 64 := by rw [List.length_cons] at hln; omega
            have hpc1 : pc ≤ 1000 := by omega
            obtain ⟨D, hown, hm1, hm2⟩ := HLw.out
            have HOWM := Lib.hid hown
            have HM1 := Lib.hid hm1
            have HM2 := Lib.hid hm2
            clear hret hown hm1 hm2 hln
            rcases hcase with hcm | ⟨hcm, hps⟩
            · rw [decide_eq_true hcm] at hlk
              go_wp2_with (at_mapUpdate; refine wpList_mapUpdate_own _ rfl _ _ _ 88 rfl 3 4 Try.law3 Try.ul88 _ mb l'.length _ rfl HOWM.out (by unfold maxLen; omega) _ _ _ rfl rfl (Maps.keyOf_int_mk Try.underlying3 (wfN hpc1)) _ [] (plainElem_bool Try.ul4 true) ?_; intro w5 hown5 hg5; have HO5 := Lib.hid hown5; have HG5 := Lib.hid hg5; clear hown5 hg5)
              go_roundw
              case rel =>
                have hF5 : Fr (fun i => i = mb) wr w5 := ((Fr.refl (fun i => i = mb) wr).alloc _).grown HG5.out fun j e => .inl (Option.some.inj e).symm
                obtain ⟨es, ck, hmb⟩ := HLk.out.block
                exact ⟨k + 1, l' ++ [pc], by omega, by go_num, by rw [List.length_append, List.length_singleton]; omega, Lib.hid (LeftMap.put HM1.out HM2.out HO5.out), Lib.hid (HFk.out.trans hF5), Lib.hid (hF5.owns HOk.out (own_not_map (show wr.ownsRow 0 3 1 _ _ _ from HOk.out) hmb)), HX2⟩
              case measure => simp [intOf]; omega
            · rw [decide_eq_false hcm] at hlk
              have hzb : (pz == 0) = false := by rw [HPZ.out]; simp; exact hps
              go_wp2_with (at_mapUpdate; refine wpList_mapUpdate_own _ rfl _ _ _ 88 rfl 3 4 Try.law3 Try.ul88 _ mb l'.length _ rfl HOWM.out (by unfold maxLen; omega) _ _ _ rfl rfl (Maps.keyOf_int_mk Try.underlying3 (wfN hpc1)) _ [] (plainElem_bool Try.ul4 true) ?_; intro w5 hown5 hg5; have HO5 := Lib.hid hown5; have HG5 := Lib.hid hg5; clear hown5 hg5)
              go_roundw
              case rel =>
                have hF5 : Fr (fun i => i = mb) wr w5 := ((Fr.refl (fun i => i = mb) wr).alloc _).grown HG5.out fun j e => .inl (Option.some.inj e).symm
                obtain ⟨es, ck, hmb⟩ := HLk.out.block
                exact ⟨k + 1, l' ++ [pc], by omega, by go_num, by rw [List.length_append, List.length_singleton]; omega, Lib.hid (LeftMap.put HM1.out HM2.out HO5.out), Lib.hid (HFk.out.trans hF5), Lib.hid (hF5.owns HOk.out (own_not_map (show wr.ownsRow 0 3 1 _ _ _ from HOk.out) hmb)), HX2⟩
              case measure => simp [intOf]; omega
        · obtain rfl : k = m := by omega
          go_wp2
          go_roundw
          case rel =>
            have e0 : (Kn.strandsL X)[q].drop k ++ R = ((Kn.strandsL X).drop (q + 1)).flatten := by rw [List.drop_eq_nil_of_le (by have := HM.out; omega), HRR.out]; rfl
            exact ⟨q + 1, l', by omega, by go_num, by rw [← e0]; exact hln, HLk, HFk, Lib.hid (by rw [← e0]; exact HSk.out)⟩
          case measure => simp [intOf]; omega
    · obtain rfl : q = np := by omega
      have HE : Hid (Kn.lowX X = none) := Lib.hid (by rw [HSC.out, List.drop_eq_nil_of_le (by have := HNP.out; omega)]; rfl)
      go_wp2
      go_ret2
      have e : lowZ X = -1 := by unfold lowZ; rw [HE.out]
      rw [e, ← HNP.out]
      exact ⟨rfl, HN1.out.next HF.out fun i hi => .inr (by rw [hi, HMB.out]; exact Nat.le_refl _)⟩
end Go.Proofs.Ytlicglicfijelaa
