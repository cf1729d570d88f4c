/- Walks: of. -/
import Derived.Test.YtlicglicfijelaaH3
import Derived.Test.YtlicglicfijelaaH4
import Derived.Test.YtlicglicfijelaaH6
import Derived.Test.YtlicglicfijelaaMAllc
namespace Go.Proofs.Ytlicglicfijelaa
open Go.RowKit
open Kn (E2 L2 cf szL sl exB ofL)

def GaveP (l : L2) (w : World) (e : Ending) (w' : World) : Prop := ∃ mb, e = .returned (.map (some mb)) ∧ Hid (PMap w' mb (szL l) l) ∧ New w w'
theorem with_only {X : List Kn.Cr} {k : Nat} (hk : k < X.length) : Kn.withL X (clS X (Kn.only k) X.length) (Kn.only k) = Kn.smL X k ∧ Kn.ringN X (clS X (Kn.only k) X.length) (Kn.only k) = Kn.smN X k := by
  rw [clS_only, if_pos hk]; exact ⟨rfl, rfl⟩
theorem ofL_bd {f : Nat} {X : List Kn.Cr} (hX : Kn.Ok X) {L : Nat} (hl : X.length ≤ 8) (hL : (Kn.strandsL X).length + L + X.length ≤ 40) (hf : f ≤ 200) : szL (ofL f X L) ≤ 120508569176408064 ∧ exB 1000000 (ofL f X L) := by
  obtain ⟨h1, h2⟩ := Kn.ofL_sz f hX L
  refine ⟨Nat.le_trans h1 ?_, h2.mono (by omega)⟩
  have h3 := Kn.lv_le hX.bX_le
  have h4 : Kn.sN X.length ≤ 109601 := by
    have gen : ∀ n, n ≤ 8 → Kn.sN n ≤ 109601 := by
      intro n hn
      match n, hn with
      | 0, _ => decide
      | 1, _ => decide
      | 2, _ => decide
      | 3, _ => decide
      | 4, _ => decide
      | 5, _ => decide
      | 6, _ => decide
      | 7, _ => decide
      | 8, _ => decide
    exact gen _ hl
  have h5 : 2 ^ ((Kn.strandsL X).length + L + X.length) ≤ 2 ^ 40 := Nat.pow_le_pow_right (by decide) hL
  exact Nat.le_trans (Nat.mul_le_mul (Nat.le_trans h3 h4) h5) (by decide)
theorem smLen {X : List Kn.Cr} {k : Nat} (hk : k < X.length) : (Kn.smL X k).length + 1 = X.length := Kn.smL_len hk
set_option maxRecDepth 100000 in
set_option maxHeartbeats 4000000 in
theorem of_any : ∀ (f : Nat) (a : Option Addr) (n c : Nat) (X : List Kn.Cr) (L : Nat) (w : World) (_ : CrsAt w a X) (_ : Kn.Ok X) (_ : n = X.length) (_ : n ≤ 8) (_ : (Kn.strandsL X).length + L + X.length ≤ 40) (_ : 1 ≤ (Kn.strandsL X).length + L) (_ : X.length * X.length + Kn.bX X + 1 ≤ f) (_ : f ≤ 200),
    Calls Try.prog 12 #[.agg #[.slice a n c, .int .i64 (L : Nat)]] w (GaveP (ofL f X L) w)
  | 0, a, n, c, X, L, w, _, _, _, _, _, _, hf, _ => by omega
  | f + 1, a, n, c, X, L, w, hx, hX, hn, hl, hL, h1, hf, hf2 => by
    have IH := Lib.hid (of_any f)
    have HCX := Lib.hid hx
    have HX := Lib.hid hX
    have HN := Lib.hid hn
    have HL := Lib.hid hL
    have H1 := Lib.hid h1
    have HF := Lib.hid hf
    have hmm := @run_makeMap Try.prog
    have hL40 : L ≤ 40 := by omega
    clear hx hX hn hL h1 hf
    go_enter Try.func12, Try.ntmps12
    go_wp2_with fail
    have hNa : New w (w.alloc (.cells #[.slice a n c, .int .i64 (L : Nat)] 24)) := (Fr.refl _ _).alloc _
    have hb := build_any a c X (L : Nat) _ (New.crs hNa HCX.out) (by have := HN.out; omega)
    rw [← HN.out, (Kn.ok_iff X).2 HX.out] at hb
    refine hb.mono ?_
    clear hb
    rintro e w1 ⟨hF, h5⟩
    obtain ⟨_, b, rfl, hs, _⟩ := h5.resolve_right fun h => absurd h.1 (by decide)
    have HN1 : Hid (New w w1) := Lib.hid (hNa.trans hF)
    have HS1 := Lib.hid hs
    clear hNa hF h5 hs
    go_wp2_with fail
    refine (low_any b X (L : Nat) w1 HS1.out HX.out (by have := HN.out; omega)).mono ?_
    rintro e w2 ⟨rfl, hF⟩
    obtain ⟨np, HNP⟩ : ∃ np, Hid (np = (Kn.strandsL X).length) := ⟨_, Lib.hid rfl⟩
    rw [← HNP.out]
    have HN2 : Hid (New w w2) := Lib.hid (HN1.out.trans hF)
    have HS2 : Hid (ShAt w2 b X (L : Nat)) := Lib.hid (New.shAt hF HS1.out)
    have hnp : np ≤ 40 := by have := HNP.out; have := HL.out; omega
    clear hF
    cases hlow : Kn.lowX X with
    | none =>
      have hz : lowZ X = -1 := by unfold lowZ; rw [hlow]
      rw [hz]
      have HO : Hid (ofL (f + 1) X L = Kn.rgL (np + L) (np + L - 1)) := Lib.hid (by
        unfold Kn.ofL
        rw [hlow, HNP.out]; rfl)
      have hloop := HS2.out.loops
      have HW : Hid (((np : Int) + (L : Int)) = ((np + L : Nat) : Int)) := Lib.hid (by omega)
      go_wp2_with fail
      rw [HW.out]
      refine (rgs_any (np + L) (by have := H1.out; have := HNP.out; omega) (by have := HL.out; have := HNP.out; omega) _).mono ?_
      rintro e w3 ⟨mb, rfl, hP, hF⟩
      go_wp2
      go_ret
      exact ⟨mb, rfl, by rw [HO.out]; exact hP, HN2.out.trans hF⟩
    | some k =>
      have hz : lowZ X = (k : Nat) := by unfold lowZ; rw [hlow]
      rw [hz]
      obtain ⟨hk, hb1⟩ := HX.out.low_lt hlow
      have HK := Lib.hid hk
      have hkn : k < n := by have := HN.out; omega
      have HLOW := Lib.hid hlow
      clear hz hk hlow
      have hk0 : ¬ ((k : Nat) : Int) < 0 := by omega
      go_wp2_with fail
      refine (change_any b k X (L : Nat) w2 HS2.out HK.out (by have := HN.out; omega)).mono ?_
      rintro e w3 ⟨sc, rfl, ho, hF⟩
      obtain ⟨a3, c3, rfl, hc3⟩ := CrsAt.of_owns ho
      have hlen : (Kn.chgL X k).length = n := by unfold Kn.chgL; rw [List.length_set, HN.out]
      rw [hlen]
      have HC3 := Lib.hid hc3
      have HN3 : Hid (New w w3) := Lib.hid (HN2.out.trans hF)
      have HS3 : Hid (ShAt w3 b X (L : Nat)) := Lib.hid (New.shAt hF HS2.out)
      have HLEN := Lib.hid hlen
      clear ho hF hc3 hlen
      have hstr := HX.out.strands_chg HK.out
      have hbx := HX.out.bX_chg HLOW.out
      go_wp2_with fail
      refine (IH.out a3 n c3 (Kn.chgL X k) L w3 HC3.out (HX.out.chg_ok HK.out) HLEN.out.symm hl (by rw [hstr, HLEN.out, HN.out]; exact HL.out) (by rw [hstr]; exact H1.out) (by rw [HLEN.out, HN.out]; have := HF.out; omega) (by omega)).mono ?_
      rintro e w4 ⟨m1, rfl, hP, hF⟩
      have HP4 := hP
      have HN4 : Hid (New w w4) := Lib.hid (HN3.out.trans hF)
      have HS4 : Hid (ShAt w4 b X (L : Nat)) := Lib.hid (New.shAt hF HS3.out)
      clear hP hF hstr hbx
      obtain ⟨g, HG⟩ : ∃ z, Hid (z = w4.heap.size) := ⟨_, Lib.hid rfl⟩
      obtain ⟨wg, HWG⟩ : ∃ z, Hid (z = w4.alloc (.cells #[.int .i64 (k : Nat)] 3)) := ⟨_, Lib.hid rfl⟩
      have hFg : New w4 wg := by rw [HWG.out]; exact (Fr.refl _ _).alloc _
      have HPg : Hid (PMap wg m1 (szL (ofL f (Kn.chgL X k) L)) (ofL f (Kn.chgL X k) L)) := Lib.hid (HP4.out.fr hFg fun x => x)
      have HNg : Hid (New w wg) := Lib.hid (HN4.out.trans hFg)
      have HSg : Hid (ShAt wg b X (L : Nat)) := Lib.hid (New.shAt hFg HS4.out)
      have HIg : Hid (IntsAt wg g [(k : Int)]) := Lib.hid fun i hi => by
        obtain rfl : i = 0 := by simp at hi; omega
        rw [HWG.out, HG.out]
        exact cell_of_row _ _ 0 _ 3 (0, 0) (heap_alloc_new w4 _)
      clear hFg HP4 HN4 HS4
      go_wp2_with fail
      rw [← HWG.out, ← HG.out]
      have hwo := without_any b g 1 1 [(k : Int)] (Kn.only k) X (L : Nat) wg HSg.out HX.out (by have := HN.out; omega) (by omega) (by omega) HIg.out rfl (by omega) (fun d _ => by unfold Kn.only; rw [Bool.eq_iff_iff, decide_eq_true_eq, decide_eq_true_eq, List.mem_singleton]; omega)
      rw [(with_only HK.out).1, (with_only HK.out).2] at hwo
      refine hwo.mono ?_
      clear hwo
      rintro e w5 ⟨sc, rfl, ho, hF⟩
      obtain ⟨a5, c5, rfl, hc5⟩ := CrsAt.of_owns ho
      obtain ⟨n5, HN5L⟩ : ∃ z, Hid (z = (Kn.smL X k).length) := ⟨_, Lib.hid rfl⟩
      rw [← HN5L.out, show (L : Int) + (Kn.smN X k : Nat) = ((L + Kn.smN X k : Nat) : Int) by omega]
      have HC5 := Lib.hid hc5
      have HN5 : Hid (New w w5) := Lib.hid (HNg.out.trans hF)
      have HS5 : Hid (ShAt w5 b X (L : Nat)) := Lib.hid (New.shAt hF HSg.out)
      have HP5 : Hid (PMap w5 m1 (szL (ofL f (Kn.chgL X k) L)) (ofL f (Kn.chgL X k) L)) := Lib.hid (HPg.out.fr hF fun x => x)
      clear ho hF hc5
      have hsm := smLen HK.out
      have hks := HX.out.k_smooth HK.out L
      have hb2 := (HX.out.smooth_ok HK.out).bX_le
      have h9 : (Kn.smL X k).length * (Kn.smL X k).length + Kn.bX (Kn.smL X k) + 1 ≤ f := by
        have h8 := HF.out
        obtain ⟨m, hm⟩ : ∃ m, m = (Kn.smL X k).length := ⟨_, rfl⟩
        rw [← hm] at hsm hb2 ⊢
        rw [← hsm] at h8
        have : (m + 1) * (m + 1) = m * m + 2 * m + 1 := by rw [Nat.add_mul, Nat.mul_add, Nat.mul_one, Nat.one_mul]; omega
        omega
      go_wp2_with fail
      refine (IH.out a5 n5 c5 (Kn.smL X k) (L + Kn.smN X k) w5 HC5.out (HX.out.smooth_ok HK.out) HN5L.out (by have := HN.out; have := HN5L.out; omega) (by have := HL.out; omega) hks.1 h9 (by omega)).mono ?_
      rintro e w6 ⟨m2, rfl, hP, hF⟩
      have HQ6 := hP
      have HN6 : Hid (New w w6) := Lib.hid (HN5.out.trans hF)
      have HP6 : Hid (PMap w6 m1 (szL (ofL f (Kn.chgL X k) L)) (ofL f (Kn.chgL X k) L)) := Lib.hid (HP5.out.fr hF fun x => x)
      obtain ⟨a7, c7, s0, _, hcr⟩ := (New.shAt hF HS5.out).crs
      have HB1 : Hid (szL (ofL f (Kn.chgL X k) L) ≤ 120508569176408064 ∧ exB 1000000 (ofL f (Kn.chgL X k) L)) := Lib.hid (ofL_bd (HX.out.chg_ok HK.out) (by unfold Kn.chgL; rw [List.length_set]; have := HN.out; omega) (by rw [HX.out.strands_chg HK.out]; unfold Kn.chgL; rw [List.length_set]; exact HL.out) (by omega))
      have HB2 : Hid (szL (ofL f (Kn.smL X k) (L + Kn.smN X k)) ≤ 120508569176408064 ∧ exB 1000000 (ofL f (Kn.smL X k) (L + Kn.smN X k))) := Lib.hid (ofL_bd (HX.out.smooth_ok HK.out) (by have := HN.out; omega) (by have := HL.out; omega) (by omega))
      have HO : Hid (ofL (f + 1) X L = Kn.cmb (Kn.cr X k).p (ofL f (Kn.chgL X k) L) (ofL f (Kn.smL X k) (L + Kn.smN X k))) := Lib.hid (by
        conv => lhs; unfold Kn.ofL
        rw [HLOW.out])
      obtain ⟨u, HU⟩ : ∃ z, Hid (z = ofL f (Kn.chgL X k) L) := ⟨_, Lib.hid rfl⟩
      obtain ⟨v, HV⟩ : ∃ z, Hid (z = ofL f (Kn.smL X k) (L + Kn.smN X k)) := ⟨_, Lib.hid rfl⟩
      rw [← HU.out] at HP6 HB1 HO
      rw [← HV.out] at HQ6 HB2 HO
      obtain ⟨su, HSU⟩ : ∃ z, Hid (z = szL u) := ⟨_, Lib.hid rfl⟩
      obtain ⟨sv, HSV⟩ : ∃ z, Hid (z = szL v) := ⟨_, Lib.hid rfl⟩
      rw [← HSU.out] at HP6 HB1
      rw [← HSV.out] at HQ6 HB2
      have hu1 := HB1.out.1
      have hv1 := HB2.out.1
      obtain ⟨bx, ox, rfl, x1, x2, x3, x4, x5⟩ := hcr.at HK.out
      rw [← HN.out] at s0
      clear hP hF hcr hsm hks hb2 h9 HP5 HC5 HS5 HPg HSg HIg x1 x2 x3 x4
      obtain ⟨pp, HPP⟩ : ∃ z, Hid (z = (Kn.cr X k).p) := ⟨_, Lib.hid rfl⟩
      rw [← HPP.out] at x5 HO
      obtain ⟨mo, HMO⟩ : ∃ z, Hid (z = w6.heap.size) := ⟨_, Lib.hid rfl⟩
      obtain ⟨w7, HW7⟩ : ∃ z, Hid (z = w6.alloc (.map #[] 0)) := ⟨_, Lib.hid rfl⟩
      have hF7 : New w6 w7 := by rw [HW7.out]; exact (Fr.refl _ _).alloc _
      have HM7 : Hid (PMap w7 mo 0 []) := Lib.hid (by rw [HW7.out, HMO.out]; exact PMap.made w6)
      have HP7 := Lib.hid (HP6.out.fr hF7 fun x => x)
      have HQ7 := Lib.hid (HQ6.out.fr hF7 fun x => x)
      have HN7 : Hid (New w w7) := Lib.hid (HN6.out.trans hF7)
      have hm1 : mo ≠ m1 := by rw [HMO.out]; have := HP6.out.lt; omega
      have hm2 : mo ≠ m2 := by rw [HMO.out]; have := HQ6.out.lt; omega
      have hmw : w.heap.size ≤ mo := by rw [HMO.out]; exact HN6.out.size
      have s7 := hF7.cell s0 fun x => x
      have y5 := hF7.cell x5 fun x => x
      rw [HW7.out] at s7 y5
      clear hF7 s0 x5
      have i1 : (0 : Int) ≤ (k : Int) := by omega
      have i2 : (k : Int) < (n : Int) := by omega
      have e0 : szL [] = 0 := rfl
      cases pp
      · go_wp2_with fail
        rw [← HW7.out, ← HMO.out]
        refine (add_any mo m1 0 su [] u 2 0 1 w7 HM7.out HP7.out hm1 (.inl rfl) (by omega) (by omega) HB1.out.2 (by rw [e0, ← HSU.out]; omega) (by omega)).mono ?_
        rintro e w8 ⟨rfl, hP, hF⟩
        rw [Nat.zero_add, List.nil_append] at hP
        have HM8 := Lib.hid hP
        have HQ8 := Lib.hid (HQ7.out.fr hF fun e => hm2 e.symm)
        have HN8 : Hid (New w w8) := Lib.hid (HN7.out.next hF fun i hi => .inr (by rw [hi]; exact hmw))
        clear hP hF s7 y5
        go_wp2_with fail
        refine (add_any mo m2 su sv (sl (2, 0) 1 u) v 1 1 (-1) w8 HM8.out HQ8.out hm2 (.inr rfl) (by omega) (by omega) HB2.out.2 (by rw [Kn.szL_sl _ rfl, ← HSU.out, ← HSV.out]; omega) (by omega)).mono ?_
        rintro e w9 ⟨rfl, hP, hF⟩
        have HN9 : Hid (New w w9) := Lib.hid (HN8.out.next hF fun i hi => .inr (by rw [hi]; exact hmw))
        have HM9 := Lib.hid hP
        clear hP hF
        go_wp2
        go_ret
        refine ⟨mo, rfl, Lib.hid ?_, HN9.out⟩
        rw [HO.out, Kn.cmb_sz, ← HSU.out, ← HSV.out]
        exact HM9.out
      · go_wp2_with fail
        rw [← HW7.out, ← HMO.out]
        refine (add_any mo m1 0 su [] u (-2) 0 1 w7 HM7.out HP7.out hm1 (.inl rfl) (by omega) (by omega) HB1.out.2 (by rw [e0, ← HSU.out]; omega) (by omega)).mono ?_
        rintro e w8 ⟨rfl, hP, hF⟩
        rw [Nat.zero_add, List.nil_append] at hP
        have HM8 := Lib.hid hP
        have HQ8 := Lib.hid (HQ7.out.fr hF fun e => hm2 e.symm)
        have HN8 : Hid (New w w8) := Lib.hid (HN7.out.next hF fun i hi => .inr (by rw [hi]; exact hmw))
        clear hP hF s7 y5
        go_wp2_with fail
        refine (add_any mo m2 su sv (sl (-2, 0) 1 u) v (-1) 1 1 w8 HM8.out HQ8.out hm2 (.inl rfl) (by omega) (by omega) HB2.out.2 (by rw [Kn.szL_sl _ rfl, ← HSU.out, ← HSV.out]; omega) (by omega)).mono ?_
        rintro e w9 ⟨rfl, hP, hF⟩
        have HN9 : Hid (New w w9) := Lib.hid (HN8.out.next hF fun i hi => .inr (by rw [hi]; exact hmw))
        have HM9 := Lib.hid hP
        clear hP hF
        go_wp2
        go_ret
        refine ⟨mo, rfl, Lib.hid ?_, HN9.out⟩
        rw [HO.out, Kn.cmb_sz, ← HSU.out, ← HSV.out]
        exact HM9.out
end Go.Proofs.Ytlicglicfijelaa
