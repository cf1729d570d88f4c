/- Walks: the law. -/
import Derived.Test.YteedpdlibhjhpaaDoorT11
import Derived.Test.YteedpdlibhjhpaaDoorK9
import Derived.Lib.LaidTab
import Derived.Lib.LaidU8
/- Walks: the law. -/
namespace Go.Proofs.YteedpdlibhjhpaaDoor
open Go.RowKit

theorem exp_bds : ((List.range 40).all fun x => (List.range x).all fun y => decide ((Kn.expandL x (y + 1)).length ≤ 1000) && decide ((Kn.expandL x (y + 1)).sum ≤ 1000000)) = true := by decide +kernel
theorem exp_bd {x y : Nat} (hx : x < 40) (hy : 1 ≤ y) (hyx : y ≤ x) : (Kn.expandL x y).length ≤ 1000 ∧ (Kn.expandL x y).sum ≤ 1000000 := by
  have h := List.all_eq_true.1 (List.all_eq_true.1 exp_bds x (List.mem_range.2 hx)) (y - 1) (List.mem_range.2 (by omega))
  rw [show y - 1 + 1 = y by omega, Bool.and_eq_true] at h
  exact ⟨of_decide_eq_true h.1, of_decide_eq_true h.2⟩
theorem same_symm (x y z : Nat) : sameB x z y = sameB x y z := by
  unfold sameB
  rw [Nat.mul_comm z y]
  congr 1
  exact decide_eq_decide.2 ⟨fun h => h.symm, fun h => h.symm⟩
theorem same_no {p q s : Nat} {w : World} (hp : 1 ≤ p) (hp' : p ≤ 1000) (hq : 1 ≤ q) (hq' : q ≤ 1000) (hs : 1 ≤ s) (hs' : s ≤ 1000) (h : (rightB p q && rightB p s) = false) :
    Calls Tryd.prog 5 #[.int .i64 p, .int .i64 q, .int .i64 p, .int .i64 s] w fun e w' => e = .returned (.tuple #[.bool false, .int .i64 3]) ∧ New w w' :=
  (same_frac p q s w hp hp' hq hq' hs hs').mono fun e w' hg => by
    obtain ⟨hF, ⟨h1, _⟩ | ⟨_, rfl⟩⟩ := hg
    · rw [h] at h1; cases h1
    · exact ⟨rfl, hF⟩
theorem same_yes {p q s : Nat} {w : World} (hp : 1 ≤ p) (hp' : p ≤ 1000) (hq : 1 ≤ q) (hq' : q ≤ 1000) (hs : 1 ≤ s) (hs' : s ≤ 1000) (h : (rightB p q && rightB p s) = true) {r : Bool} (hr : sameB p q s = r) :
    Calls Tryd.prog 5 #[.int .i64 p, .int .i64 q, .int .i64 p, .int .i64 s] w fun e w' => e = .returned (.tuple #[.bool r, .int .i64 0]) ∧ New w w' :=
  (same_frac p q s w hp hp' hq hq' hs hs').mono fun e w' hg => by
    obtain ⟨hF, ⟨_, rfl⟩ | ⟨h1, _⟩⟩ := hg
    · exact ⟨by rw [hr], hF⟩
    · rw [h] at h1; cases h1
theorem exp_yes {p q : Nat} {w : World} (hp : 1 ≤ p) (hp' : p ≤ 1000) (hq : 1 ≤ q) (hq' : q ≤ p) (h : rightB p q = true) :
    Calls Tryd.prog 6 #[.int .i64 p, .int .i64 q] w fun e w' => (∃ v, e = .returned (.tuple #[v, .int .i64 0]) ∧ w'.ownsRow w.heap.size 3 1 v (Kn.expandL p q).length (nums (Kn.expandL p q))) ∧ New w w' :=
  (expand_any p q w hp hp' hq hq').mono fun e w' hg => by
    obtain ⟨hF, ⟨_, h2⟩ | ⟨h1, _⟩⟩ := hg
    · exact ⟨h2, hF⟩
    · rw [h] at h1; cases h1
set_option maxRecDepth 100000 in
set_option maxHeartbeats 4000000 in
theorem law_any (a b c : Int) (w : World) (a1 : -9223372036854775808 ≤ a) (a2 : a ≤ 9223372036854775807) (b1 : -9223372036854775808 ≤ b) (b2 : b ≤ 9223372036854775807) (c1 : -9223372036854775808 ≤ c) (c2 : c ≤ 9223372036854775807) (ht : EnvT w) :
    Calls Tryd.prog 3 #[.int .i64 a, .int .i64 b, .int .i64 c] w fun e w' => e = .returned (.bool true) ∧ New w w' := by
  have HT := Lib.hid ht
  obtain ⟨p1, p2⟩ := pick_range (n := a) (m := 20) (by omega)
  obtain ⟨k, hk⟩ : ∃ k : Nat, pick a 20 = (k : Nat) := ⟨(pick a 20).toNat, by omega⟩
  obtain ⟨x, HX⟩ : ∃ x : Nat, Hid (x = 2 * k + 1) := ⟨_, Lib.hid rfl⟩
  have hx1 : 1 ≤ x := by have := HX.out; omega
  have hx2 : x < 40 := by have := HX.out; omega
  obtain ⟨q1, q2⟩ := pick_range (n := b) (m := (x : Int)) (by omega)
  obtain ⟨r1, r2⟩ := pick_range (n := c) (m := (x : Int)) (by omega)
  obtain ⟨y', hy'⟩ : ∃ k : Nat, pick b x = (k : Nat) := ⟨(pick b x).toNat, by omega⟩
  obtain ⟨z', hz'⟩ : ∃ k : Nat, pick c x = (k : Nat) := ⟨(pick c x).toNat, by omega⟩
  obtain ⟨y, HY⟩ : ∃ y : Nat, Hid (y = y' + 1) := ⟨_, Lib.hid rfl⟩
  obtain ⟨z, HZ⟩ : ∃ z : Nat, Hid (z = z' + 1) := ⟨_, Lib.hid rfl⟩
  have hy1 : 1 ≤ y := by have := HY.out; omega
  have hy2 : y ≤ x := by have := HY.out; omega
  have hz1 : 1 ≤ z := by have := HZ.out; omega
  have hz2 : z ≤ x := by have := HZ.out; omega
  have P1 := picked_any a 20 w a1 a2 (by omega) (by omega)
  rw [hk] at P1
  have P2 := picked_any b (x : Nat) w b1 b2 (by omega) (by omega)
  rw [hy'] at P2
  have P3 := picked_any c (x : Nat) w c1 c2 (by omega) (by omega)
  rw [hz'] at P3
  have e1 : (2 * (k : Int) + 1) = (x : Nat) := by have := HX.out; omega
  have e1' : (1 + 2 * (k : Int)) = (x : Nat) := by have := HX.out; omega
  have e2 : (1 + (y' : Int)) = (y : Nat) := by have := HY.out; omega
  have e3 : (1 + (z' : Int)) = (z : Nat) := by have := HZ.out; omega
  have k1 : (k : Int) < 20 := by omega
  have S3 := fun w => same_yes (p := 5) (q := 2) (s := 3) (w := w) (by omega) (by omega) (by omega) (by omega) (by omega) (by omega) (by decide) (r := true) (by decide)
  have HP1 := Lib.hid P1
  have HP2 := Lib.hid P2
  have HP3 := Lib.hid P3
  have HS3 := Lib.hid S3
  have y'1 : (y' : Int) < 40 := by omega
  have z'1 : (z' : Int) < 40 := by omega
  clear P1 P2 P3 S3 hk hy' hz' p1 p2 q1 q2 r1 r2 ht
  go_enter Tryd.func3, Tryd.ntmps3
  go_wp2_with fail
  refine HP1.out.mono ?_
  rintro e w1 ⟨rfl, rfl⟩
  go_wp2_with fail
  refine HP2.out.mono ?_
  rintro e w2 ⟨rfl, rfl⟩
  go_wp2_with fail
  refine HP3.out.mono ?_
  rintro e w3 ⟨rfl, rfl⟩
  go_wp2_with fail
  by_cases hr : (rightB x y && rightB x z) = true
  · have hr' := hr
    rw [Bool.and_comm] at hr'
    obtain ⟨s, hs⟩ : ∃ s, sameB x y z = s := ⟨_, rfl⟩
    have hs2 : sameB x z y = s := by rw [same_symm]; exact hs
    refine (same_yes hx1 (by omega) hy1 (by omega) hz1 (by omega) hr hs).mono ?_
    rintro e w4 ⟨rfl, hF4⟩
    have HF4 := Lib.hid hF4
    clear hF4
    go_wp2_with fail
    refine (same_yes hx1 (by omega) hz1 (by omega) hy1 (by omega) hr' hs2).mono ?_
    rintro e w5 ⟨rfl, hF5⟩
    have HF5 := Lib.hid (HF4.out.trans hF5)
    clear hF5
    go_wp2_with fail
    refine (HS3.out w5).mono ?_
    rintro e w6 ⟨rfl, hF6⟩
    have HF6 := Lib.hid (HF5.out.trans hF6)
    clear hF6
    go_wp2_with fail
    rw [Bool.and_eq_true] at hr
    refine (exp_yes hx1 (by omega) hy1 hy2 hr.1).mono ?_
    rintro e w7 ⟨⟨v7, rfl, hO7⟩, hF7⟩
    have HF7 := Lib.hid (HF6.out.trans hF7)
    have HO7 := Lib.hid hO7
    obtain ⟨a7, n7, rfl, _⟩ := own_shape2 hO7
    clear hF7 hO7
    go_wp2_with fail
    refine (exp_yes hx1 (by omega) hz1 hz2 hr.2).mono ?_
    rintro e w8 ⟨⟨v8, rfl, hO8⟩, hF8⟩
    have HF8 := Lib.hid (HF7.out.trans hF8)
    have HO7 := Lib.hid (hF8.owns HO7.out fun _ _ x => x)
    have HO8 := Lib.hid hO8
    obtain ⟨a8, n8, rfl, _⟩ := own_shape2 hO8
    clear hF8 hO8
    have hbd1 := exp_bd hx2 hy1 hy2
    have hbd2 := exp_bd hx2 hz1 hz2
    cases s
    · go_wp2_with fail
      go_ret
      exact ⟨rfl, HF8.out⟩
    · go_wp2_with fail
      refine (total_any _ _ _ _ HO7.out hbd1.1 hbd1.2).mono ?_
      rintro e w9 ⟨rfl, rfl⟩
      obtain ⟨t1, HT1⟩ : ∃ t, Hid (t = (Kn.expandL x y).sum) := ⟨_, Lib.hid rfl⟩
      obtain ⟨t2, HT2⟩ : ∃ t, Hid (t = (Kn.expandL x z).sum) := ⟨_, Lib.hid rfl⟩
      rw [← HT1.out]
      by_cases h1 : t1 ≤ 10
      · have h1' : ¬ (10 : Int) < (t1 : Int) := by omega
        go_wp2_with fail
        refine (total_any _ _ _ _ HO8.out hbd2.1 hbd2.2).mono ?_
        rintro e w9 ⟨rfl, rfl⟩
        rw [← HT2.out]
        by_cases h2 : t2 ≤ 10
        · have h2' : ¬ (10 : Int) < (t2 : Int) := by omega
          obtain ⟨X, Y, hX, hY, hJ⟩ := pair_ok hx2 (by have := HX.out; omega) hy1 hy2 hz1 hz2 hr.1 hr.2 hs (by rw [← HT1.out]; exact h1) (by rw [← HT2.out]; exact h2)
          have HLX := Lib.hid hX
          have HLY := Lib.hid hY
          have HJ := Lib.hid hJ
          clear hX hY hJ
          go_wp2_with fail
          refine (link_any _ _ _ _ HO7.out HLX.out.odd hbd1.1 (by rw [← HT1.out]; omega) X 0 HLX.out.link).mono ?_
          rintro e w10 ⟨sv, rfl, hO, hF⟩
          have HFa := Lib.hid (HF8.out.trans hF)
          have HOX := Lib.hid hO
          have HO8 := Lib.hid (hF.owns HO8.out fun _ _ x => x)
          obtain ⟨sa, sc, rfl, _⟩ := own_shape2 hO
          clear hO hF
          go_wp2_with fail
          obtain ⟨u1, HU1⟩ : ∃ z, Hid (z = w10.alloc (.cells #[.slice sa X.length sc, .int .i64 0] 32)) := ⟨_, Lib.hid rfl⟩
          obtain ⟨B1, HB1⟩ : ∃ z, Hid (z = w10.heap.size) := ⟨_, Lib.hid rfl⟩
          have hn1 : New w10 u1 := by rw [HU1.out]; exact (Fr.refl _ _).alloc _
          have HBX : Hid (u1.heap[B1]? = some (.cells #[.slice sa X.length sc, .int .i64 0] 32 (0, 0))) := Lib.hid (by rw [HU1.out, HB1.out]; exact heap_alloc_new w10 _)
          rw [← HU1.out, ← HB1.out]
          have HFa := Lib.hid (HFa.out.trans hn1)
          have HOX := Lib.hid (hn1.owns HOX.out fun _ _ x => x)
          have HO8 := Lib.hid (hn1.owns HO8.out fun _ _ x => x)
          clear hn1 HU1 HB1
          refine (link_any _ _ _ _ HO8.out HLY.out.odd hbd2.1 (by rw [← HT2.out]; omega) Y 0 HLY.out.link).mono ?_
          rintro e w11 ⟨sv, rfl, hO, hF⟩
          have HFa := Lib.hid (HFa.out.trans hF)
          have HOY := Lib.hid hO
          have HOX := Lib.hid (hF.owns HOX.out fun _ _ x => x)
          have HBX := Lib.hid (hF.blk HBX.out fun x => x)
          obtain ⟨sb, sd, rfl, _⟩ := own_shape2 hO
          clear hO hF
          go_upto_region 18 with fail
          obtain ⟨u2, HU2⟩ : ∃ z, Hid (z = w11.alloc (.cells #[.slice sb Y.length sd, .int .i64 0] 32)) := ⟨_, Lib.hid rfl⟩
          obtain ⟨B2, HB2⟩ : ∃ z, Hid (z = w11.heap.size) := ⟨_, Lib.hid rfl⟩
          have hn2 : New w11 u2 := by rw [HU2.out]; exact (Fr.refl _ _).alloc _
          have HBY : Hid (u2.heap[B2]? = some (.cells #[.slice sb Y.length sd, .int .i64 0] 32 (0, 0))) := Lib.hid (by rw [HU2.out, HB2.out]; exact heap_alloc_new w11 _)
          rw [← HU2.out, ← HB2.out]
          have HFa := Lib.hid (HFa.out.trans hn2)
          have HOX := Lib.hid (hn2.owns HOX.out fun _ _ x => x)
          have HOY := Lib.hid (hn2.owns HOY.out fun _ _ x => x)
          have HBX := Lib.hid (hn2.blk HBX.out fun x => x)
          clear hn2 HU2 HB2
          obtain ⟨ax, cx, ex, hcx⟩ := CrsAt.of_owns HOX.out
          cases ex
          obtain ⟨ay, cy, ey, hcy⟩ := CrsAt.of_owns HOY.out
          cases ey
          have HCX := Lib.hid hcx
          have HCY := Lib.hid hcy
          clear hcx hcy
          obtain ⟨b0, b1⟩ := two_c HBX.out
          have J1 := Lib.hid (jones_any sa X.length sc X 0 u2 HCX.out rfl HLX.out.len (by have := HLX.out.len; omega) (by omega) HLX.out.opn (New.envT HFa.out HT.out))
          go_wp2_with fail
          refine J1.out.mono ?_
          rintro e w12 ⟨hF, v1, m1, rfl, hT1, hm1, hj1⟩
          have HFa := Lib.hid (HFa.out.trans hF)
          have HCY := Lib.hid (New.crs hF HCY.out)
          have HBY := Lib.hid (hF.blk HBY.out fun x => x)
          have HM1 := Lib.hid (And.intro hT1 (And.intro hm1 hj1))
          clear hF hT1 hm1 hj1 b0 b1
          obtain ⟨b0, b1⟩ := two_c HBY.out
          have J2 := Lib.hid (jones_any sb Y.length sd Y 0 w12 HCY.out rfl HLY.out.len (by have := HLY.out.len; omega) (by omega) HLY.out.opn (New.envT HFa.out HT.out))
          go_wp2_with fail
          refine J2.out.mono ?_
          rintro e w13 ⟨hF, v2, m2, rfl, hT2, hm2, hj2⟩
          have HFa := Lib.hid (HFa.out.trans hF)
          have HTS := Lib.hid (New.ts hF HM1.out.1)
          have hmm : m1 = m2 := HJ.out m1 m2 HM1.out.2.2 hj2
          have SS := Lib.hid (same_any v1 v2 m1 m2 w13 HTS.out hT2 HM1.out.2.1 hm2)
          clear hF hj2
          go_wp2_with fail
          refine SS.out.mono ?_
          rintro e w14 ⟨rfl, hF⟩
          have HFa := Lib.hid (HFa.out.trans hF)
          rw [decide_eq_true hmm]
          go_wp2_with fail
          go_ret
          exact ⟨rfl, HFa.out⟩
        · have h2' : (10 : Int) < (t2 : Int) := by omega
          go_wp2_with fail
          go_ret
          exact ⟨rfl, HF8.out⟩
      · have h1' : (10 : Int) < (t1 : Int) := by omega
        go_wp2_with fail
        go_ret
        exact ⟨rfl, HF8.out⟩
  · have hr : (rightB x y && rightB x z) = false := by simpa using hr
    have hr' := hr
    rw [Bool.and_comm] at hr'
    refine (same_no hx1 (by omega) hy1 (by omega) hz1 (by omega) hr).mono ?_
    rintro e w4 ⟨rfl, hF4⟩
    have HF4 := Lib.hid hF4
    clear hF4
    go_wp2_with fail
    refine (same_no hx1 (by omega) hz1 (by omega) hy1 (by omega) hr').mono ?_
    rintro e w5 ⟨rfl, hF5⟩
    have HF5 := Lib.hid (HF4.out.trans hF5)
    clear hF5
    go_wp2_with fail
    refine (HS3.out w5).mono ?_
    rintro e w6 ⟨rfl, hF6⟩
    have HF6 := Lib.hid (HF5.out.trans hF6)
    clear hF6
    go_wp2_with fail
    go_ret
    exact ⟨rfl, HF6.out⟩
end Go.Proofs.YteedpdlibhjhpaaDoor

/- A package variable that is an array of arrays of arrays of ints. -/
namespace Go.Proofs.YteedpdlibhjhpaaDoor
open Go.RowKit

theorem cells_nested {H : Type} {enc : TypeId × Value → H} {P : Program} {w : World} {base : Nat} {sp : Nat → Bool} {held : Bool} {fuel : Nat} {t e : TypeId} {n m : Nat} {cs : List Value} {ds : List (DataW H)} {p : List MemPlace}
    (ht : P.underlying t = some (.array n e)) (hce : P.cellsOf e = m) (hct : P.cellsOf t = n * m)
    (h : DataW.trod enc P w base sp held fuel t cs = some (.agg ds, p)) : cs.length = n * m ∧ ∀ i, i < n → ∀ d, ds[i]? = some d → ∃ f' p', DataW.trod enc P w base sp held f' e ((cs.drop (i * m)).take m) = some (d, p') := by
  cases fuel with
  | zero => simp [DataW.trod] at h
  | succ fuel =>
    simp only [DataW.trod, ht, hce, hct] at h
    split at h
    · rename_i hl
      refine ⟨hl, fun i hi d hd => ?_⟩
      obtain ⟨xs, hm, hx⟩ := Option.map_eq_some_iff.1 h
      obtain ⟨b, hb, hf⟩ := Lib.mapM_at hm i i (by simp [hi])
      have hxs : xs.map (·.1) = ds := by
        have := congrArg Prod.fst hx
        simpa using this
      have : (xs.map (·.1))[i]? = some b.1 := by simp [hb]
      rw [hxs, hd] at this
      cases this
      exact ⟨fuel, b.2, hf⟩
    · cases h
end Go.Proofs.YteedpdlibhjhpaaDoor
