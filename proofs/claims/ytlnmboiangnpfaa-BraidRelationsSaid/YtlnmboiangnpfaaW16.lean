/- Walks: what is told of two words. -/
import Derived.Test.YtlnmboiangnpfaaW15
import Derived.StillTailTactics
namespace Go.Proofs.Ytlnmboiangnpfaa
open Go.RowKit

/- told: whether the normal forms are one, whether the actions are, and that nothing was refused -/
def ToldGave (n : Nat) (xs ys : List Int) (w : World) (e : Ending) (w' : World) : Prop :=
  ∃ (s t : Int × List (List Nat)), Bd.IsNf n (Bd.run n Bd.start xs) s ∧ Bd.IsNf n (Bd.run n Bd.start ys) t ∧ e = .returned (.tuple #[.bool (decide (s = t)), .bool (Bd.actL n xs == Bd.actL n ys), .bool true]) ∧ New w w'

theorem tab_ext {L M : List (List Int)} (hl : L.length = M.length) (h : ∀ j, j < L.length → L.getD j [] = M.getD j []) : L = M := by
  apply List.ext_getElem hl
  intro j h1 h2
  have := h j h1
  rwa [List.getD_eq_getElem?_getD, List.getD_eq_getElem?_getD, List.getElem?_eq_getElem h1, List.getElem?_eq_getElem h2] at this
theorem actL_length {n : Nat} {xs : List Int} (hw : Bd.Word n xs) : (Bd.actL n xs).length = n := (Bd.actL_fits hw).1

def FormIs (p q : Int) (M1 M2 : List (List Nat)) (T1 T2 : List (List Int)) (f : Bool) (k : Nat) : Prop :=
  (f = true → p = q ∧ T1.length = T2.length ∧ ∀ j, j < k → T1.getD j [] = T2.getD j []) ∧ (f = false → (p, M1) ≠ (q, M2))
def ActIs (T1 T2 : List (List Int)) (f : Bool) (k : Nat) : Prop :=
  (f = true → ∀ j, j < k → T1.getD j [] = T2.getD j []) ∧ (f = false → T1 ≠ T2)
def FinIs (p q : Int) (M1 M2 : List (List Nat)) (f : Bool) : Prop := f = decide ((p, M1) = (q, M2))
def ActFin (T1 T2 : List (List Int)) (g : Bool) : Prop := g = (T1 == T2)
theorem tl_bound {n : Nat} (hn : n ∈ Bd.ns) {L : List (List Nat)} (hL : Bd.AllP n L) (k : Nat) : ((tl L).getD k []).length ≤ 4000000000 := by
  have hn5 := ns_le hn
  by_cases hk : k < L.length
  · rw [tl_get hk]
    have pl : L.getD k [] ∈ Bd.perms n := by
      rw [List.getD_eq_getElem?_getD, List.getElem?_eq_getElem hk]; exact hL _ (List.getElem_mem hk)
    have := Bd.perm_len hn pl
    simp only [List.length_map, List.length_tail]
    omega
  · have : (tl L)[k]? = none := by rw [List.getElem?_eq_none_iff, tl_length]; omega
    rw [List.getD_eq_getElem?_getD, this]; exact Nat.zero_le _
theorem act_bound {n : Nat} (h5 : n ≤ 5) {xs : List Int} (lx : xs.length ≤ 20) (k : Nat) : ((Bd.actL n xs).getD k []).length ≤ 4000000000 :=
  (((bnd_act n h5 xs).mono (Nat.le_trans (Nat.pow_le_pow_right (by omega) lx) (show 3 ^ 20 ≤ 4000000000 by decide))).get k).1

set_option maxHeartbeats 8000000 in
theorem told_any (a a' : Option Addr) (l l' c c' n : Nat) (i : Int) (xs ys : List Int) (w : World) (hi : i = n) (hl : l = xs.length) (hl' : l' = ys.length) (hn : n ∈ Bd.ns) (hx : IntsAt w a xs) (hy : IntsAt w a' ys) (lx : xs.length ≤ 20) (ly : ys.length ≤ 20) (wx : Bd.Word n xs) (wy : Bd.Word n ys) :
    Calls Try.prog 8 #[.int .i64 i, .slice a l c, .slice a' l' c'] w (ToldGave n xs ys w) := by
  subst hi
  subst hl
  subst hl'
  have hn5 := ns_le hn
  have HX := Lib.hid hx
  have HY := Lib.hid hy
  have HN := Lib.hid hn
  have HWx := Lib.hid wx
  have HWy := Lib.hid wy
  clear hx hy hn wx wy
  go_enter Try.func8, Try.ntmps8
  go_wp2_with fail
  refine (braidNormal_any _ _ _ n n xs w rfl rfl HN.out HX.out lx HWx.out).mono ?_
  rintro e w1 ⟨p, a1, c1, M1, rfl, hr1, hm1, hal1, hw1, hnf1⟩
  have HR1 := Lib.hid hr1
  have HA1 := Lib.hid hal1
  have HW1 := Lib.hid hw1
  have HNF1 := Lib.hid hnf1
  clear hr1 hal1 hw1 hnf1
  go_wp2_with fail
  refine (braidNormal_any _ _ _ n n ys w1 rfl rfl HN.out (New.ints HW1.out HY.out) ly HWy.out).mono ?_
  rintro e w2 ⟨q, a2, c2, M2, rfl, hr2, hm2, hal2, hw2, hnf2⟩
  have HR2 := Lib.hid hr2
  have HA2 := Lib.hid hal2
  have HW2 := Lib.hid (HW1.out.trans hw2)
  have HR12 := Lib.hid (HR1.out.new hw2)
  have HNF2 := Lib.hid hnf2
  clear hr2 hal2 hw2 hnf2
  go_wp2_with fail
  refine (act_any _ _ _ n n xs w2 rfl rfl hn5.1 hn5.2 (New.ints HW2.out HX.out) lx HWx.out).mono ?_
  rintro e w3 ⟨G1, rfl, ht1, _, hw3⟩
  have HT1 := Lib.hid ht1.reads
  have HW3 := Lib.hid (HW2.out.trans hw3)
  have HR13 := Lib.hid (HR12.out.new hw3)
  have HR23 := Lib.hid (HR2.out.new hw3)
  clear ht1 hw3
  go_wp2_with fail
  refine (act_any _ _ _ n n ys w3 rfl rfl hn5.1 hn5.2 (New.ints HW3.out HY.out) ly HWy.out).mono ?_
  rintro e w4 ⟨G2, rfl, ht2, _, hw4⟩
  have HT2 := Lib.hid ht2.reads
  have HW4 := Lib.hid (HW3.out.trans hw4)
  have HT14 := Lib.hid (HT1.out.new hw4)
  have HR14 := Lib.hid (HR13.out.new hw4)
  have HR24 := Lib.hid (HR23.out.new hw4)
  clear ht2 hw4
  obtain ⟨T1, HT1e⟩ : ∃ T, Hid (T = tl M1) := ⟨_, Lib.hid rfl⟩
  obtain ⟨T2, HT2e⟩ : ∃ T, Hid (T = tl M2) := ⟨_, Lib.hid rfl⟩
  rw [← HT1e.out] at HR14 hm1 ⊢
  rw [← HT2e.out] at HR24 hm2 ⊢
  obtain ⟨X1, HX1e⟩ : ∃ T, Hid (T = Bd.actL n xs) := ⟨_, Lib.hid rfl⟩
  obtain ⟨X2, HX2e⟩ : ∃ T, Hid (T = Bd.actL n ys) := ⟨_, Lib.hid rfl⟩
  have HXl : Hid (X1.length = n ∧ X2.length = n) := Lib.hid ⟨by rw [HX1e.out]; exact actL_length HWx.out, by rw [HX2e.out]; exact actL_length HWy.out⟩
  rw [← HX1e.out] at HT14
  rw [← HX2e.out] at HT2
  -- whether the normal forms may be one
  obtain ⟨f0, HF0⟩ : ∃ f : Bool, Hid (f = (decide (p = q) && decide (T1.length = T2.length))) := ⟨_, Lib.hid rfl⟩
  have step1 : (f0 = true ∧ (p == q) = true ∧ ((T1.length : Int) == (T2.length : Int)) = true) ∨ (f0 = false ∧ (p == q) = true ∧ ((T1.length : Int) == (T2.length : Int)) = false) ∨ (f0 = false ∧ (p == q) = false) := by
    by_cases h1 : p = q
    · by_cases h2 : T1.length = T2.length
      · left; refine ⟨by rw [HF0.out]; simp [h1, h2], by rw [beq_iff_eq]; exact h1, by rw [beq_iff_eq]; omega⟩
      · right; left; refine ⟨by rw [HF0.out]; simp [h2], by rw [beq_iff_eq]; exact h1, by rw [beq_eq_false_iff_ne]; omega⟩
    · right; right; exact ⟨by rw [HF0.out]; simp [h1], by rw [beq_eq_false_iff_ne]; exact h1⟩
  have HFI : Hid (FormIs p q M1 M2 T1 T2 f0 0) := Lib.hid (by
    constructor
    · intro h
      rw [HF0.out] at h
      simp only [Bool.and_eq_true, decide_eq_true_eq] at h
      exact ⟨h.1, h.2, fun j hj => by omega⟩
    · intro h e
      rw [HF0.out] at h
      have e1 : p = q := congrArg Prod.fst e
      have e2 : M1 = M2 := congrArg Prod.snd e
      simp [e1, HT1e.out, HT2e.out, e2] at h)
  rcases step1 with ⟨rfl, hb1, hb2⟩ | ⟨rfl, hb1, hb2⟩ | ⟨rfl, hb1⟩
  all_goals
    go_wp2_with fail
    clear hb1
    go_loopw [19, 20] (fun fm i wr => ∃ (f : Bool) (k : Nat), fm = .bool f ∧ i = .int .i64 k ∧ k ≤ T1.length ∧ Hid (FormIs p q M1 M2 T1 T2 f k) ∧ Hid (New w4 wr)) (fun _ i _ => T1.length - (intOf i).toNat)
    case atStart => exact ⟨_, 0, rfl, rfl, by omega, HFI, Lib.hid (Fr.refl _ _)⟩
    case round =>
      obtain ⟨f, k, rfl, rfl, hk, HT, HF⟩ := hrel
      by_cases hgo : f = true ∧ k < T1.length
      · obtain ⟨rfl, hlt⟩ := hgo
        have hlt2 : k < T2.length := by have := (HT.out.1 rfl).2.1; omega
        obtain ⟨g1, o1, b1, d1, rfl, hc1, hi1⟩ := (HR14.out.new HF.out).at hlt
        obtain ⟨g2, o2, b2, d2, rfl, hc2, hi2⟩ := (HR24.out.new HF.out).at hlt2
        have hl1 := tl_bound HN.out HA1.out k
        have hl2 := tl_bound HN.out HA2.out k
        rw [← HT1e.out] at hl1
        rw [← HT2e.out] at hl2
        obtain ⟨t1, HE1⟩ : ∃ t, Hid (t = T1.getD k []) := ⟨_, Lib.hid rfl⟩
        obtain ⟨t2, HE2⟩ : ∃ t, Hid (t = T2.getD k []) := ⟨_, Lib.hid rfl⟩
        rw [← HE1.out] at hc1 hi1 hl1
        rw [← HE2.out] at hc2 hi2 hl2
        have HI1 := Lib.hid hi1
        have HI2 := Lib.hid hi2
        have q1 : wr.drew.cell? ⟨g1, o1 + k, none⟩ = some (.slice b1 t1.length d1) := hc1
        have q2 : wr.drew.cell? ⟨g2, o2 + k, none⟩ = some (.slice b2 t2.length d2) := hc2
        clear hi1 hi2
        have k1 : (k : Int) < (T1.length : Int) := by omega
        have k2 : (k : Int) < (T2.length : Int) := by omega
        go_wp2_with fail
        have hdr : New wr wr.drew := (Fr.refl _ _).drew
        go_still_tail 8, (by kernel_rfl)
        clear q1 q2
        change wpList _ _ _ _ _ wr.drew
        generalize wr.drew = w5 at hdr
        have HD := Lib.hid hdr
        clear hdr
        go_wp2_with fail
        refine (equalInts_any b1 b2 d1 d2 t1 t2 w5 (New.ints HD.out HI1.out) (New.ints HD.out HI2.out) hl1 hl2).mono ?_
        rintro e w6 ⟨rfl, h6⟩
        have HW6 := Lib.hid (HF.out.trans (HD.out.trans h6))
        have HN2 : Hid (FormIs p q M1 M2 T1 T2 (t1 == t2) (k + 1)) := Lib.hid (by
          refine ⟨fun h => ⟨(HT.out.1 rfl).1, (HT.out.1 rfl).2.1, fun j hj => ?_⟩, fun h e => ?_⟩
          · by_cases c : j = k
            · subst c; rw [← HE1.out, ← HE2.out]; exact eq_of_beq h
            · exact (HT.out.1 rfl).2.2 j (by omega)
          · have e2 : M1 = M2 := congrArg Prod.snd e
            rw [beq_eq_false_iff_ne] at h
            exact h (by rw [HE1.out, HE2.out, HT1e.out, HT2e.out, e2]))
        clear h6
        go_wp2
        go_roundw
        case rel => exact ⟨t1 == t2, k + 1, rfl, by go_num, by omega, HN2, HW6⟩
        case measure => simp [intOf]; omega
      · have hfin : Hid (FinIs p q M1 M2 f) := Lib.hid (by
          unfold FinIs
          cases f with
          | false => symm; rw [decide_eq_false_iff_not]; exact HT.out.2 rfl
          | true =>
            symm; rw [decide_eq_true_iff]
            obtain ⟨e1, e2, e3⟩ := HT.out.1 rfl
            have e4 : T1 = T2 := tab_ext e2 fun j hj => e3 j (by
              have : ¬ k < T1.length := fun h => hgo ⟨rfl, h⟩
              omega)
            rw [HT1e.out, HT2e.out] at e4
            rw [e1, tl_inj HA1.out HA2.out e4])
        have hout : (f = false ∧ k < T1.length) ∨ ¬ k < T1.length := by
          by_cases h : k < T1.length
          · left; refine ⟨?_, h⟩
            cases f with
            | false => rfl
            | true => exact absurd ⟨rfl, h⟩ hgo
          · exact .inr h
        clear hgo HFI
        rcases hout with ⟨rfl, hlt⟩ | hlt
        all_goals
          go_wp2_with fail
          clear hlt
          go_loopw [21, 22] (fun gm i wr => ∃ (g : Bool) (k : Nat), gm = .bool g ∧ i = .int .i64 k ∧ k ≤ n ∧ Hid (ActIs X1 X2 g k) ∧ Hid (New w4 wr)) (fun _ i _ => n - (intOf i).toNat)
          case atStart => exact ⟨true, 0, rfl, rfl, by omega, Lib.hid ⟨fun _ j hj => by omega, fun h => by cases h⟩, HF⟩
          case round =>
            obtain ⟨g, k, rfl, rfl, hk, HA, HF⟩ := hrel
            by_cases hgo : g = true ∧ k < n
            · obtain ⟨rfl, hlt⟩ := hgo
              obtain ⟨g1, o1, b1, d1, e1, hc1, hi1⟩ := (HT14.out.new HF.out).at (k := k) (by rw [HXl.out.1]; exact hlt)
              cases e1
              obtain ⟨g2, o2, b2, d2, e2, hc2, hi2⟩ := (HT2.out.new HF.out).at (k := k) (by rw [HXl.out.2]; exact hlt)
              cases e2
              have hl1 := act_bound hn5.2 lx k
              have hl2 := act_bound hn5.2 ly k
              rw [← HX1e.out] at hl1
              rw [← HX2e.out] at hl2
              obtain ⟨t1, HE1⟩ : ∃ t, Hid (t = X1.getD k []) := ⟨_, Lib.hid rfl⟩
              obtain ⟨t2, HE2⟩ : ∃ t, Hid (t = X2.getD k []) := ⟨_, Lib.hid rfl⟩
              rw [← HE1.out] at hc1 hi1 hl1
              rw [← HE2.out] at hc2 hi2 hl2
              rw [Nat.zero_add] at hc1 hc2
              have HI1 := Lib.hid hi1
              have HI2 := Lib.hid hi2
              have q1 : wr.drew.cell? ⟨G1, k, none⟩ = some (.slice b1 t1.length d1) := hc1
              have q2 : wr.drew.cell? ⟨G2, k, none⟩ = some (.slice b2 t2.length d2) := hc2
              clear hi1 hi2
              have k1 : (k : Int) < (n : Int) := by omega
              go_wp2_with fail
              have hdr : New wr wr.drew := (Fr.refl _ _).drew
              go_still_tail 8, (by kernel_rfl)
              clear q1 q2
              change wpList _ _ _ _ _ wr.drew
              generalize wr.drew = w5 at hdr
              have HD := Lib.hid hdr
              clear hdr
              go_wp2_with fail
              refine (equalInts_any b1 b2 d1 d2 t1 t2 w5 (New.ints HD.out HI1.out) (New.ints HD.out HI2.out) hl1 hl2).mono ?_
              rintro e w6 ⟨rfl, h6⟩
              have HW6 := Lib.hid (HF.out.trans (HD.out.trans h6))
              have HN2 : Hid (ActIs X1 X2 (t1 == t2) (k + 1)) := Lib.hid (by
                refine ⟨fun h j hj => ?_, fun h e => ?_⟩
                · by_cases c : j = k
                  · subst c; rw [← HE1.out, ← HE2.out]; exact eq_of_beq h
                  · exact HA.out.1 rfl j (by omega)
                · rw [beq_eq_false_iff_ne] at h
                  exact h (by rw [HE1.out, HE2.out, e]))
              clear h6
              go_wp2
              go_roundw
              case rel => exact ⟨t1 == t2, k + 1, rfl, by go_num, by omega, HN2, HW6⟩
              case measure => simp [intOf]; omega
            · have hafin : Hid (ActFin X1 X2 g) := Lib.hid (by
                unfold ActFin
                cases g with
                | false => symm; rw [beq_eq_false_iff_ne]; exact HA.out.2 rfl
                | true =>
                  symm; rw [beq_iff_eq]
                  exact tab_ext (by rw [HXl.out.1, HXl.out.2]) fun j hj => HA.out.1 rfl j (by
                    have : ¬ k < n := fun h => hgo ⟨rfl, h⟩
                    have := HXl.out.1
                    omega))
              have hout : (g = false ∧ k < n) ∨ ¬ k < n := by
                by_cases h : k < n
                · left; refine ⟨?_, h⟩
                  cases g with
                  | false => rfl
                  | true => exact absurd ⟨rfl, h⟩ hgo
                · exact .inr h
              clear hgo
              rcases hout with ⟨rfl, hlt⟩ | hlt
              all_goals
                go_wp2_with fail
                go_ret3
                have hf := hfin.out
                have hg := hafin.out
                unfold FinIs at hf
                unfold ActFin at hg
                refine ⟨(p, M1), (q, M2), HNF1.out, HNF2.out, ?_, HW4.out.trans HF.out⟩
                rw [← hf, ← HX1e.out, ← HX2e.out, ← hg]
                rfl
end Go.Proofs.Ytlnmboiangnpfaa
