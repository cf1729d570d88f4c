/-
  THE SHELL OF A PROOF OF 'Rows.BraidRelationsSaid' ('knotwork/knotworkkeep.BraidRelations'), WRITTEN BY PROGRAM (proof-skeleton.mjs, third state) off the guide's own print for that function. Not trusted: Lean checks it.
  ALL ELSE IS THE GUIDE's OWN WAY (howto/template/XProofs.lean; Derived/Test/ChunkProofs.lean for 'Below') at this function's number and types: leave it.
-/
import Derived.Test.YtlnmboiangnpfaaRows
import Derived.WalkKit
import Derived.ProofKit
import Derived.OpenShut
import Derived.ShutString
import Derived.ChangeOld
import Derived.Below
import Derived.Test.YtlnmboiangnpfaaW16
import Derived.Test.YtlnmboiangnpfaaW19
import Derived.StillTailTactics
namespace Go.Proofs.Ytlnmboiangnpfaa.braidRelations
open Go.ChangeShapes Go.WideShapes Go.ChangeAt Go.RowKit
open Go.ChangeMaps (open_string shut_string)
set_option linter.unusedVariables false

theorem own : ownKnob Try.prog.godebug = none := by kernel_rfl
theorem laidOut : laidOutB Try.prog = true := by kernel_rfl

/-- WHAT THE WALK IS TOLD OF A SLICE OF INTEGERS THAT CAME IN: it is nil; or it leads to a row of 'cap' cells, the numbers 'zs' (the first 'len' are its elements, the rest its spare room), each fitting its kind. -/
def IsRow (k : IntKind) (w : World) (a : Option Addr) (len cap : Nat) (zs : List Int) : Prop :=
  (a = none ∧ len = 0 ∧ cap = 0 ∧ zs = []) ∨
  ∃ x, a = some x ∧ len ≤ cap ∧ cap ≤ maxLen ∧ zs.length = cap ∧ (∀ i, i < zs.length → w.cell? (x.add i) = some (.int k (zs.getD i 0))) ∧ ∀ n ∈ zs, (Lit.int k n).wf = true

theorem raw_of_wf {zs : List Int} (h : ∀ n ∈ zs, (Lit.int .i64 n).wf = true) : Raw zs := fun x hx => by
  have := bounds_i64 (h x hx)
  omega
theorem raw_in {w : World} {a : Option Addr} {len cap : Nat} {zs : List Int} (h : IsRow .i64 w a len cap zs) : ∃ raw, len = raw.length ∧ IntsAt w a raw ∧ Raw raw ∧ raw.length ≤ 9223372036854775807 := by
  rcases h with ⟨rfl, rfl, rfl, rfl⟩ | ⟨x, rfl, hl, hm, hz, hc, hw⟩
  · exact ⟨[], rfl, .inl rfl, (fun _ h => by cases h), by simp⟩
  · refine ⟨zs.take len, by rw [List.length_take]; omega, ?_, raw_of_wf fun n hn => hw n (List.mem_of_mem_take hn), by rw [List.length_take]; unfold maxLen at hm; omega⟩
    by_cases h0 : len = 0
    · subst h0; exact .inl (by simp)
    · obtain ⟨b, o, rfl, hc'⟩ := ints_at hc (by omega)
      refine .inr ⟨b, o, rfl, fun i hi => ?_⟩
      rw [List.length_take] at hi
      rw [hc' i (by omega)]
      simp [List.getD_eq_getElem?_getD, show i < len from by omega]
theorem nf_word {n : Nat} (hn : n ∈ Bd.ns) {xs : List Int} (hw : Bd.Word n xs) : Bd.AllP n (Bd.run n Bd.start xs).2 := Bd.run_allP hn hw fun _ h => by cases h

/-! ### STEP 1: THE WALK: the Go text returns true, AND WRITES NOTHING THAT WAS THERE: 'Below w.heap.size w w'' (Derived/Below.lean: '.refl', '.alloc', '.drew', '.setCell' at a new block, '.trans'). Open each 'IsRow' by 'rcases' AHEAD of 'go_enter'; part every test ahead of the walk. -/
set_option maxRecDepth 20000 in
set_option maxHeartbeats 4000000 in
theorem walk (a0 : Int) (a1 : Option Addr) (len1 cap1 : Nat) (z1 : List Int) (a2 : Int) (a3 : Int) (a4 : Int) (w : World) (w0 : (Lit.int .i64 a0).wf = true) (w1 : IsRow .i64 w a1 len1 cap1 z1) (w2 : (Lit.int .i64 a2).wf = true) (w3 : (Lit.int .i64 a3).wf = true) (w4 : (Lit.int .i64 a4).wf = true) :
    Calls Try.prog 4 #[.int .i64 a0, .slice a1 len1 cap1, .int .i64 a2, .int .i64 a3, .int .i64 a4] w fun e w' => e = .returned (.bool true) ∧ Below w.heap.size w w' := by
  obtain ⟨r1, rfl, hi1, hr1, hb1⟩ := raw_in w1
  have hb0 := bounds_i64 w0
  have hb2 := bounds_i64 w2
  have hb3 := bounds_i64 w3
  have hb4 := bounds_i64 w4
  have hp := pick_range (n := a0) (m := 3) (by omega)
  have cc := Lib.hid (picked_any a0 3 w (by omega) (by omega) (by omega) (by omega))
  obtain ⟨n, HNe⟩ : ∃ n : Nat, Hid ((n : Int) = 3 + pick a0 3) := ⟨(3 + pick a0 3).toNat, Lib.hid (by omega)⟩
  have hn3 : 3 ≤ n := by have := HNe.out; omega
  have hn5 : n ≤ 5 := by have := HNe.out; omega
  have hn2 : 2 ≤ n := by omega
  have HN := Lib.hid (Bd.mem_ns hn2 hn5)
  have HI1 := Lib.hid hi1
  have HR1 := Lib.hid hr1
  have HB2 := Lib.hid hb2
  obtain ⟨pk, HPk⟩ : ∃ pk, Hid (pk = pick a0 3) := ⟨_, Lib.hid rfl⟩
  have hpk : Hid ((3 : Int) + pk = n) := Lib.hid (by rw [HPk.out, HNe.out])
  rw [← HPk.out] at cc hp
  have hp1 := hp.1
  have hp2 := hp.2
  have hq3 := pick_range (n := a3) (m := (n : Int) - 1) (by omega)
  have hq4 := pick_range (n := a4) (m := (n : Int) - 1) (by omega)
  have c3 := Lib.hid fun w => picked_any a3 ((n : Int) - 1) w (by omega) (by omega) (by omega) (by omega)
  have c4 := Lib.hid fun w => picked_any a4 ((n : Int) - 1) w (by omega) (by omega) (by omega) (by omega)
  obtain ⟨A, HA⟩ : ∃ A : Nat, Hid ((1 : Int) + pick a3 ((n : Int) - 1) = A) := ⟨(1 + pick a3 ((n : Int) - 1)).toNat, Lib.hid (by omega)⟩
  obtain ⟨B, HB⟩ : ∃ B : Nat, Hid ((1 : Int) + pick a4 ((n : Int) - 1) = B) := ⟨(1 + pick a4 ((n : Int) - 1)).toNat, Lib.hid (by omega)⟩
  have HLA : Hid (A ∈ Bd.lets n) := Lib.hid (Bd.mem_lets.2 (by have := HA.out; omega))
  have HLB : Hid (B ∈ Bd.lets n) := Lib.hid (Bd.mem_lets.2 (by have := HB.out; omega))
  obtain ⟨qa, HQa⟩ : ∃ q, Hid (q = pick a3 ((n : Int) - 1)) := ⟨_, Lib.hid rfl⟩
  obtain ⟨qb, HQb⟩ : ∃ q, Hid (q = pick a4 ((n : Int) - 1)) := ⟨_, Lib.hid rfl⟩
  rw [← HQa.out] at c3 hq3 HA
  rw [← HQb.out] at c4 hq4 HB
  have hA1 : 1 ≤ A := (Bd.mem_lets.1 HLA.out).1
  have hA2 : A < n := (Bd.mem_lets.1 HLA.out).2
  have hB1 : 1 ≤ B := (Bd.mem_lets.1 HLB.out).1
  have hB2 : B < n := (Bd.mem_lets.1 HLB.out).2
  have ha1 := hq3.1
  have ha2 := hq3.2
  have hb1' := hq4.1
  have hb2' := hq4.2
  clear w0 w1 w2 w3 w4 hi1 hr1 hb0 hb2 hb3 hb4 hp hq3 hq4
  go_enter Try.func4, Try.ntmps4
  go_wp2_with fail
  refine cc.out.mono ?_
  rintro e wa ⟨rfl, rfl⟩
  go_wp2_with fail
  rw [hpk.out]
  refine (wordOwn_any _ _ _ n 12 n 12 r1 _ rfl rfl rfl hn2 hn5 (by omega) HI1.out hb1 HR1.out).mono ?_
  rintro e wb ⟨xs, hw1, hl1, v, rfl, hx1, hf1⟩
  obtain ⟨xl, HXL⟩ : ∃ xl, Hid (xl = xs.length) := ⟨_, Lib.hid rfl⟩
  have hxl : xl ≤ 12 := by rw [HXL.out]; exact hl1
  obtain ⟨u, c, hve, hxc, hcm, hux⟩ : ∃ u c, v = .slice u xl c ∧ xl ≤ c ∧ c ≤ maxLen ∧ ((u = none ∧ xl = 0 ∧ c = 0) ∨ ∃ g, u = some ⟨g, 0, none⟩ ∧ IntsAt wb u xs) := by
    rw [HXL.out]
    rcases Own.seen hx1 with ⟨rfl, rfl⟩ | ⟨g, c, rfl, h1, h2, h3⟩
    · exact ⟨none, 0, rfl, by simp, by unfold maxLen; omega, .inl ⟨rfl, rfl, rfl⟩⟩
    · exact ⟨_, c, rfl, h1, h2, .inr ⟨g, rfl, h3⟩⟩
  subst hve
  have HUX := Lib.hid hux
  have HW1 := Lib.hid hw1
  have HF1 := Lib.hid hf1
  have cm : c ≤ 9223372036854775807 := by unfold maxLen at hcm; omega
  have hq := pick_range (n := a2) (m := (xl : Int) + 1) (by omega)
  have c2 := Lib.hid (picked_any a2 ((xl : Int) + 1) wb (by have := HB2.out; omega) (by have := HB2.out; omega) (by omega) (by omega))
  obtain ⟨k, HK⟩ : ∃ k : Nat, Hid (pick a2 ((xl : Int) + 1) = k) := ⟨(pick a2 ((xl : Int) + 1)).toNat, Lib.hid (by omega)⟩
  have hk : k ≤ xl := by have := HK.out; omega
  rw [HK.out] at c2
  clear hux hw1 hf1 hx1 hl1 hq hcm
  go_wp2_with fail
  refine c2.out.mono ?_
  rintro e wb' ⟨rfl, rfl⟩
  go_wp2_with fail
  refine (c3.out _).mono ?_
  rintro e wb' ⟨rfl, rfl⟩
  go_wp2_with fail
  refine (c4.out _).mono ?_
  rintro e wb' ⟨rfl, rfl⟩
  go_upto_region 5 with fail
  rw [HA.out, HB.out]
  go_upto_region 7 with fail
  go_cut [17, 64] (fun s17 s wx => s17 = .int .i64 ((A : Int) - B) ∧ s = .bool (Bd.near A B) ∧ Hid (New wb wx) ∧ Hid (IntsAt wx (some ⟨wb.heap.size, 0, none⟩) [(A : Int), -(A : Int)]))
  case first =>
    go_wp2_with fail
    all_goals
      go_meet
      exact ⟨by first | rfl | exact congrArg _ (by omega), near_t _ (by simp <;> omega), Lib.hid (alloc_new _ _), Lib.hid (lit_ints' _ [(A : Int), -(A : Int)] _ _ rfl)⟩
  case rest =>
  obtain ⟨rfl, rfl, HN1, HI2⟩ := hcut
  rename_i w6
  go_upto_if 64 with fail
  go_cut [16] (fun s wx => ∃ (g L : Nat), s = .slice (some ⟨g, 0, none⟩) L L ∧ Hid (L = (Bd.relator A B).length) ∧ Hid (IntsAt wx (some ⟨g, 0, none⟩) (Bd.relator A B)) ∧ Hid (New wb wx))
  case first =>
    cases e4 : Bd.near A B with
    | true =>
      have HRel : Hid (Bd.relator A B = [(A : Int), B, A, -(B : Int), -(A : Int), -(B : Int)]) := Lib.hid (by
        have e1 : ¬ A = B := by
          simp only [Bd.near, Bool.or_eq_true, beq_iff_eq] at e4
          omega
        unfold Bd.relator; rw [if_neg e1, if_pos e4])
      clear e4
      go_wp2_with fail
      go_meet
      exact ⟨_, _, rfl, Lib.hid (by rw [HRel.out]; rfl), Lib.hid (by rw [HRel.out]; exact lit_ints' _ [(A : Int), B, A, -(B : Int), -(A : Int), -(B : Int)] _ _ rfl), Lib.hid (HN1.out.trans (alloc_new _ _))⟩
    | false =>
      by_cases e1 : A = B
      · have HRel : Hid (Bd.relator A B = [(A : Int), -(A : Int)]) := Lib.hid (by unfold Bd.relator; rw [if_pos e1])
        have e2 : A ≤ B := by omega
        have e3 : B ≤ A := by omega
        clear e1 e4
        go_wp2_with fail
        go_meet
        exact ⟨_, _, rfl, Lib.hid (by rw [HRel.out]; rfl), Lib.hid (by rw [HRel.out]; exact HI2.out), HN1⟩
      · have HRel : Hid (Bd.relator A B = [(A : Int), B, -(A : Int), -(B : Int)]) := Lib.hid (by unfold Bd.relator; rw [if_neg e1, if_neg (by rw [e4]; decide)])
        have e5 : A + 1 ≤ B ∨ B + 1 ≤ A := by omega
        clear e1 e4
        rcases e5 with e5 | e5
        all_goals
          go_wp2_with fail
          go_meet
          exact ⟨_, _, rfl, Lib.hid (by rw [HRel.out]; rfl), Lib.hid (by rw [HRel.out]; exact lit_ints' _ [(A : Int), B, -(A : Int), -(B : Int)] _ _ rfl), Lib.hid (HN1.out.trans (alloc_new _ _))⟩
  case rest =>
    obtain ⟨g, L, rfl, HL, HRI, HNx⟩ := hcut
    obtain ⟨vs, HV⟩ : ∃ vs, Hid (vs = xs.take k ++ Bd.relator A B ++ xs.drop k) := ⟨_, Lib.hid rfl⟩
    obtain ⟨vl, HVL⟩ : ∃ vl, Hid (vl = vs.length) := ⟨_, Lib.hid rfl⟩
    have hvl : vl ≤ 18 := by
      rw [HVL.out, HV.out]
      simp only [List.length_append, List.length_take, List.length_drop]
      have := Bd.relator_length A B
      have := HXL.out
      omega
    go_upto_region 11 with fail
    go_cut [18] (fun s wx => ∃ a' c', s = .slice a' vl c' ∧ Hid (IntsAt wx a' vs) ∧ Hid (New wc wx))
    case first =>
      have hT : ∀ (w5 : World) (A1 A3 : Option Addr) (c1 c3 l1 l3 : Nat), l1 = (xs.take k).length → l3 = (xs.drop k).length → IntsAt w5 A1 (xs.take k) → IntsAt w5 A3 (xs.drop k) → New wc w5 →
          Calls Try.prog 9 #[.slice (some ⟨w5.heap.size, 0, none⟩) 3 3] (w5.alloc (.cells #[.slice A1 l1 c1, .slice (some ⟨g, 0, none⟩) L L, .slice A3 l3 c3] 22)) fun e w' => ∃ a' c', e = .returned (.slice a' vl c') ∧ IntsAt w' a' vs ∧ New wc w' := by
        intro w5 A1 A3 c1 c3 l1 l3 h1 h3 i1 i3 hn
        have ht := lit_tab3 w5 c1 L c3 22 h1 HL.out h3 i1 (New.ints hn HRI.out) i3
        have hv : [xs.take k, Bd.relator A B, xs.drop k].flatten = vs := by rw [HV.out]; simp
        refine (join_any _ 3 3 _ _ (by rfl) ht (by simp) (by rw [hv]; have := HVL.out; omega)).mono ?_
        rintro e w' ⟨a', c', rfl, i, _, hnew⟩
        rw [hv] at i ⊢
        exact ⟨a', c', by rw [HVL.out], i, (hn.trans (alloc_new _ _)).trans hnew⟩
      have HT := Lib.hid hT
      clear hT
      have d1 : (0 : Int) ≤ k := by omega
      have d2 : (k : Int) ≤ c := by omega
      have d3 : (k : Int) ≤ xl := by omega
      rcases HUX.out with ⟨rfl, e1, e2⟩ | ⟨g0, rfl, hi⟩
      · have HX0 : Hid (xs = []) := Lib.hid (List.length_eq_zero_iff.1 (by rw [← HXL.out]; exact e1))
        obtain rfl : k = 0 := by omega
        subst e2
        subst e1
        have hdr : New wc wc.drew := (Fr.refl _ _).drew
        go_still_tail 7, (by kernel_rfl)
        change wpList _ _ _ _ _ wc.drew
        generalize wc.drew = w5 at hdr
        have HD := Lib.hid hdr
        clear hdr
        go_wp2_with fail
        refine (HT.out w5 none none _ _ _ _ (by simp) (by rw [HX0.out]; rfl) (.inl (by simp)) (.inl (by rw [HX0.out]; rfl)) HD.out).mono ?_
        rintro e w7 ⟨a', c', rfl, i7, n7⟩
        go_wp2_with fail
        go_meet
        exact ⟨a', c', rfl, Lib.hid i7, Lib.hid n7⟩
      · have HI := Lib.hid (New.ints HNx.out hi)
        clear hi
        by_cases hck : c = k
        · obtain rfl : xl = k := by omega
          subst hck
          have hdr : New wc wc.drew := (Fr.refl _ _).drew
          go_still_tail 7, (by kernel_rfl)
          change wpList _ _ _ _ _ wc.drew
          generalize wc.drew = w5 at hdr
          have HD := Lib.hid hdr
          clear hdr
          go_wp2_with fail
          refine (HT.out w5 _ _ _ _ _ _ (by rw [List.length_take]; have := HXL.out; omega) (by rw [List.length_drop]; have := HXL.out; omega) (New.ints HD.out HI.out).take_ (.inl (by rw [List.drop_eq_nil_iff]; have := HXL.out; omega)) HD.out).mono ?_
          rintro e w7 ⟨a', c', rfl, i7, n7⟩
          go_wp2_with fail
          go_meet
          exact ⟨a', c', rfl, Lib.hid i7, Lib.hid n7⟩
        · have hck' : k < c := by omega
          have hdr : New wc wc.drew := (Fr.refl _ _).drew
          go_still_tail 7, (by kernel_rfl)
          change wpList _ _ _ _ _ wc.drew
          generalize wc.drew = w5 at hdr
          have HD := Lib.hid hdr
          clear hdr
          go_wp2_with fail
          refine (HT.out w5 _ _ _ _ _ _ (by rw [List.length_take]; have := HXL.out; omega) (by rw [List.length_drop]; have := HXL.out; omega) (New.ints HD.out HI.out).take_ (by have h := (New.ints HD.out HI.out).drop k; simpa [addr_add] using h) HD.out).mono ?_
          rintro e w7 ⟨a', c', rfl, i7, n7⟩
          go_wp2_with fail
          go_meet
          exact ⟨a', c', rfl, Lib.hid i7, Lib.hid n7⟩
    case rest =>
      rename_i wh
      obtain ⟨a7, c7, rfl, HIV, HN7⟩ := hcut
      have HWV : Hid (Bd.Word n vs) := Lib.hid (by rw [HV.out]; exact Bd.put_word HLA.out HLB.out HW1.out k)
      have HR : Hid (Bd.RelF n xs vs) := Lib.hid (by rw [HV.out]; exact Bd.put_rel HLA.out HLB.out xs k)
      have HIU : Hid (IntsAt wc u xs) := Lib.hid (New.ints (HNx.out.trans HN7.out) (by
        rcases HUX.out with ⟨_, e1, _⟩ | ⟨g0, _, hi⟩
        · exact .inl (List.length_eq_zero_iff.1 (by rw [← HXL.out]; exact e1))
        · exact hi))
      have HFa : Hid (New w wc) := Lib.hid (HF1.out.trans (HNx.out.trans HN7.out))
      go_wp2_with fail
      refine (braidEqual_any _ _ _ _ _ _ n n xs vs _ rfl HXL.out HVL.out HN.out HIU.out HIV.out (by have := HXL.out; omega) (by have := HVL.out; omega) HW1.out HWV.out).mono ?_
      rintro e wd ⟨s1, t1, hs1, ht1, rfl, hf3⟩
      have HE1 : Hid (decide (s1 = t1) = true) := Lib.hid (decide_eq_true (Bd.rel_nf HN.out HR.out HW1.out HWV.out hs1 ht1).1)
      rw [HE1.out]
      have HF3 := Lib.hid hf3
      clear hs1 ht1 hf3
      go_wp2_with fail
      refine (told_any _ _ _ _ _ _ n n xs vs _ rfl HXL.out HVL.out HN.out (New.ints HF3.out HIU.out) (New.ints HF3.out HIV.out) (by have := HXL.out; omega) (by have := HVL.out; omega) HW1.out HWV.out).mono ?_
      rintro e we ⟨s2, t2, hs2, ht2, rfl, hf4⟩
      have HE2 : Hid (decide (s2 = t2) = true) := Lib.hid (decide_eq_true (Bd.rel_nf HN.out HR.out HW1.out HWV.out hs2 ht2).1)
      have HE3 : Hid ((Bd.actL n xs == Bd.actL n vs) = true) := Lib.hid (beq_iff_eq.2 (Bd.rel_nf HN.out HR.out HW1.out HWV.out hs2 ht2).2)
      rw [HE2.out, HE3.out]
      have HF4 : Hid (New w we) := Lib.hid (HFa.out.trans (HF3.out.trans hf4))
      clear hs2 ht2 hf4
      go_wp2
      go_loopw [24, 25, 26] (fun h m _ wr => ∃ d m' : Nat, m' + d + 1 = n ∧ m = .int .i64 m' ∧ Hid (Own we.heap.size wr h (Bd.half n d)) ∧ Hid (New we wr)) (fun _ m _ _ => (intOf m).toNat)
      case atStart => exact ⟨0, n - 1, by omega, congrArg _ (by omega), Lib.hid (World.ownsRow_nil _ _ _ _), Lib.hid (Fr.refl _ _)⟩
      case round =>
        obtain ⟨d, m', hdm, rfl, HO, HF⟩ := hrel
        have HDM := Lib.hid hdm
        have hm4 : m' ≤ 4 := by omega
        have hd4 : d ≤ 4 := by omega
        clear hdm
        have HLn := Lib.hid (Bd.half_le hn5 d hd4)
        by_cases h0 : 0 < m'
        · go_wp2
          go_loopw [24, 26] (fun h l wr => ∃ k2 : Nat, k2 ≤ m' ∧ l = .int .i64 ((k2 : Int) + 1) ∧ Hid (Own we.heap.size wr h (Bd.half n d ++ Bd.up k2)) ∧ Hid (New we wr)) (fun _ l _ => m' + 1 - (intOf l).toNat)
          case atStart => exact ⟨0, by omega, rfl, Lib.hid (by rw [show Bd.up 0 = [] from rfl, List.append_nil]; exact HO.out), HF⟩
          case round =>
            obtain ⟨k2, hk2, rfl, HO2, HF2⟩ := hrel
            by_cases hlt : k2 < m'
            · go_wp2_with (at_builtin; refine wpList_app rfl _ _ rfl we.heap.size _ (Bd.half n d ++ Bd.up k2) [(k2 : Int) + 1] _ 1 1 rfl ?d0 rfl rfl ?d2 ?d3 ?d4 ?_)
              case d0 => exact World.ownsRow.alloc HO2.out _
              case d2 => exact lit_ints' _ [(k2 : Int) + 1] _ _ rfl
              case d3 => have := HLn.out; simp only [List.length_append, Bd.up_length, List.length_singleton]; omega
              case d4 => have := HF2.out.size; simp; omega
              intro v' w1 hown hgrow
              have HN8 : Hid (New we w1) := Lib.hid (Fr.grown (HF2.out.alloc _) hgrow fun k e => .inr (World.ownsRow.lt HO2.out k e).1)
              have ho : Hid (Own we.heap.size w1 v' (Bd.half n d ++ Bd.up (k2 + 1))) := Lib.hid (by rw [Bd.up_succ]; first | exact hown | (rw [← List.append_assoc]; exact hown))
              clear hown hgrow
              go_wp2
              go_roundw
              case rel => exact ⟨k2 + 1, by omega, by go_num, ho, HN8⟩
              case measure => simp [intOf]; omega
            · obtain rfl : k2 = m' := by omega
              have HO3 : Hid (∀ v, True → Bd.half n (d + 1) = Bd.half n d ++ Bd.up k2 ∨ v = 0) := Lib.hid fun (v : Nat) _ => .inl (by
                have := HDM.out
                show Bd.half n d ++ Bd.up (n - 1 - d) = _
                rw [show n - 1 - d = k2 by omega])
              have HO4 := Lib.hid (show Bd.half n (d + 1) = Bd.half n d ++ Bd.up k2 from (HO3.out 1 trivial).elim id (fun h => by cases h))
              rw [← HO4.out] at HO2
              have HDM2 : Hid (k2 - 1 + (d + 1) + 1 = n) := Lib.hid (by have := HDM.out; omega)
              go_wp2
              go_roundw
              case rel => exact ⟨d + 1, k2 - 1, HDM2.out, by first | (go_num; done) | exact congrArg _ (by omega), HO2, HF2⟩
              case measure => simp [intOf]; omega
        · obtain rfl : m' = 0 := by omega
          obtain ⟨hf, HH⟩ : ∃ hf, Hid (hf = Bd.half n (n - 1)) := ⟨_, Lib.hid rfl⟩
          have hd : d = n - 1 := by have := HDM.out; omega
          rw [hd, ← HH.out] at HO
          obtain ⟨a9, c9, rfl, hi9, _⟩ := IntsAt.of_owns HO.out
          have HI9 := Lib.hid hi9
          obtain ⟨hl, HHL⟩ : ∃ hl, Hid (hl = hf.length) := ⟨_, Lib.hid rfl⟩
          rw [← HHL.out]
          have HFw : Hid (New w wr) := Lib.hid (HF4.out.trans HF.out)
          clear hi9 hd
          have hcase : 10 ≤ hl ∨ (hl ≤ 6 ∧ (n = 3 ∨ n = 4)) := by
            rw [HHL.out, HH.out]
            have : n = 3 ∨ n = 4 ∨ n = 5 := by omega
            rcases this with rfl | rfl | rfl
            · right; exact ⟨by rw [Bd.half_three]; omega, .inl rfl⟩
            · right; exact ⟨by rw [Bd.half_four]; omega, .inr rfl⟩
            · left; rw [Bd.half_five]; omega
          have hl20 : hl ≤ 16 := by
            rw [HHL.out, HH.out]
            have := Bd.half_le hn5 (n - 1) (by omega)
            omega
          rcases hcase with hbig | ⟨hsm, h34⟩
          · go_wp2
            go_ret
            exact ⟨rfl, Fr.below HFw.out fun k hk => ⟨hk, fun x => x⟩⟩
          · have H34 := Lib.hid h34
            clear h34
            go_wp2_with fail
            refine (join_any _ 2 2 [hf, hf] _ rfl (lit_tab2' _ c9 c9 22 _ (by simp) HHL.out HHL.out HI9.out HI9.out) (by simp) (by have := HHL.out; simp; omega)).mono ?_
            rintro e wf ⟨a10, c10, rfl, hi10, _, hn10⟩
            have e10 : [hf, hf].flatten = hf ++ hf := by simp
            rw [e10] at hi10 ⊢
            clear e10
            obtain ⟨fu, HFU⟩ : ∃ fu, Hid (fu = hf ++ hf) := ⟨_, Lib.hid rfl⟩
            rw [← HFU.out] at hi10 ⊢
            obtain ⟨fl, HFL⟩ : ∃ fl, Hid (fl = fu.length) := ⟨_, Lib.hid rfl⟩
            rw [← HFL.out]
            have hfl : fl ≤ 12 := by
              rw [HFL.out, HFU.out, List.length_append]
              have := HHL.out
              omega
            have HI10 := Lib.hid hi10
            have HN10 : Hid (New wr wf) := Lib.hid ((alloc_new _ _).trans hn10)
            have HWh : Hid (Bd.Word n hf) := Lib.hid (by rw [HH.out]; exact Bd.half_word _)
            have HWf : Hid (Bd.Word n fu) := Lib.hid (by rw [HFU.out]; exact Bd.word_app.2 ⟨HWh.out, HWh.out⟩)
            have HWb : Hid (Bd.Word n [(B : Int)]) := Lib.hid (Bd.word_cons.2 ⟨Bd.let_nat HLB.out, Bd.word_nil⟩)
            clear hi10 hn10
            go_wp2_with fail
            refine (braidNormal_any a9 hl c9 n _ hf _ rfl HHL.out HN.out (New.ints HN10.out HI9.out) (by have := HHL.out; omega) HWh.out).mono ?_
            rintro e wg ⟨p, a11, c11, M, rfl, _, hm, _, hn11, hnf⟩
            have hpw := Bd.half_power HN.out H34.out (s := (p, M)) (by rw [← HH.out]; exact hnf)
            obtain rfl : p = 1 := hpw
            obtain ⟨tm, HTM⟩ : ∃ tm, Hid (tm = (tl M).length) := ⟨_, Lib.hid rfl⟩
            rw [← HTM.out]
            have HN11 := Lib.hid (HN10.out.trans hn11)
            have HI11 := Lib.hid (New.ints hn11 HI10.out)
            clear hm hnf hn11
            go_wp2_with fail
            refine (join_any _ 2 2 [fu, [(B : Int)]] _ rfl (lit_tab2' _ c10 1 22 _ (by simp) HFL.out rfl (New.ints (alloc_new _ _) HI11.out) (lit_ints' _ [(B : Int)] _ _ rfl)) (by simp) (by have := HFL.out; simp; omega)).mono ?_
            rintro e wk ⟨a12, c12, rfl, hi12, _, hn12⟩
            have e12 : [fu, [(B : Int)]].flatten = fu ++ [(B : Int)] := by simp
            rw [e12] at hi12 ⊢
            clear e12
            obtain ⟨X1, HX1⟩ : ∃ X, Hid (X = fu ++ [(B : Int)]) := ⟨_, Lib.hid rfl⟩
            rw [← HX1.out] at hi12 ⊢
            obtain ⟨x1, HL1⟩ : ∃ l, Hid (l = X1.length) := ⟨_, Lib.hid rfl⟩
            rw [← HL1.out]
            have HI12 := Lib.hid hi12
            have HN12 : Hid (New wg wk) := Lib.hid (((alloc_new _ _).trans (alloc_new _ _)).trans hn12)
            clear hi12 hn12
            go_wp2_with fail
            refine (join_any _ 2 2 [[(B : Int)], fu] _ rfl (lit_tab2' _ 1 c10 22 _ (by simp) rfl HFL.out (lit_ints' _ [(B : Int)] _ _ rfl) (New.ints (alloc_new _ _) (New.ints HN12.out HI11.out))) (by simp) (by have := HFL.out; simp; omega)).mono ?_
            rintro e wl ⟨a13, c13, rfl, hi13, _, hn13⟩
            have e13 : [[(B : Int)], fu].flatten = [(B : Int)] ++ fu := by simp
            rw [e13] at hi13 ⊢
            clear e13
            obtain ⟨X2, HX2⟩ : ∃ X, Hid (X = [(B : Int)] ++ fu) := ⟨_, Lib.hid rfl⟩
            rw [← HX2.out] at hi13 ⊢
            obtain ⟨x2, HL2⟩ : ∃ l, Hid (l = X2.length) := ⟨_, Lib.hid rfl⟩
            rw [← HL2.out]
            have HI13 := Lib.hid hi13
            have HN13 : Hid (New wk wl) := Lib.hid (((alloc_new _ _).trans (alloc_new _ _)).trans hn13)
            have HWX1 : Hid (Bd.Word n X1) := Lib.hid (by rw [HX1.out]; exact Bd.word_app.2 ⟨HWf.out, HWb.out⟩)
            have HWX2 : Hid (Bd.Word n X2) := Lib.hid (by rw [HX2.out]; exact Bd.word_app.2 ⟨HWb.out, HWf.out⟩)
            have HXX : Hid (Bd.actL n X1 = Bd.actL n X2) := Lib.hid (by rw [HX1.out, HX2.out, HFU.out, HH.out]; exact Bd.full_act H34.out HLB.out)
            have hx1 : X1.length ≤ 20 := by rw [HX1.out, List.length_append, ← HFL.out]; simp; omega
            have hx2 : X2.length ≤ 20 := by rw [HX2.out, List.length_append, ← HFL.out]; simp; omega
            clear hi13 hn13
            go_wp2_with fail
            refine (braidEqual_any _ _ _ _ _ _ n n X1 X2 _ rfl HL1.out HL2.out HN.out (New.ints HN13.out HI12.out) HI13.out hx1 hx2 HWX1.out HWX2.out).mono ?_
            rintro e wm ⟨s3, t3, hs3, ht3, rfl, hf9⟩
            have e9 : decide (s3 = t3) = true := decide_eq_true ((Bd.nf_iff HN.out HWX1.out HWX2.out hs3 ht3).2 HXX.out)
            rw [e9]
            have HF9 : Hid (New w wm) := Lib.hid (HFw.out.trans (HN11.out.trans (HN12.out.trans (HN13.out.trans hf9))))
            clear hs3 ht3 hf9 e9
            go_wp2
            go_ret
            exact ⟨rfl, Fr.below HF9.out fun k hk => ⟨hk, fun x => x⟩⟩

/-! ### THE ROW's STEP: WRITTEN OUT: LEAVE IT -/
set_option maxRecDepth 100000 in
theorem lifted (os : Os) (started : os.Started) (H : Type) (enc : TypeId × Value → H) :
    ReturnsInHanded {} Try.checked os 4 .any (Rows.braidRelationsSpec.pre6 enc Try.prog Try.f4 Rows.braidRelationsRow.domain false) (Rows.braidRelationsSpec.post enc Try.prog Try.f4 false true false false) := by
  refine returnsInHanded_of_change (C := Try.checked) own started (by kernel_rfl) Try.func4
    (ChangeSpec.witness6 (enc := enc) (C := Try.checked) false ⟨#[], #[.int .i64 0, .slice none 0 0, .int .i64 0, .int .i64 0, .int .i64 0], []⟩ 8 (by kernel_rfl) (by kernel_rfl) (by kernel_rfl) (by kernel_rfl)) ?_
  intro W base args ds gs before hval0 hW hcnd _
  have hval : ∀ (j : Nat) t v, Try.f4.params[j]? = some t → args[j]? = some v → Value.okWide Try.prog W .any base t v := hval0
  have hW' := hW
  obtain ⟨p, q, hA0, hV, rfl, hfz, hnd⟩ := hW
  have hA : DataW.TrodAll enc Try.prog W 0 (fun _ => true) true Try.f4.params.toList args.toList ds p := hA0
  rw [Try.params4] at hA hval
  obtain ⟨v0, vs0, d0, ds0, p0, q0, hargs, rfl, rfl, h0, r0⟩ := trodAll_cons hA
  obtain ⟨v1, vs1, d1, ds1, p1, q1, rfl, rfl, rfl, h1, r1⟩ := trodAll_cons r0
  obtain ⟨v2, vs2, d2, ds2, p2, q2, rfl, rfl, rfl, h2, r2⟩ := trodAll_cons r1
  obtain ⟨v3, vs3, d3, ds3, p3, q3, rfl, rfl, rfl, h3, r3⟩ := trodAll_cons r2
  obtain ⟨v4, vs4, d4, ds4, p4, q4, rfl, rfl, rfl, h4, r4⟩ := trodAll_cons r3
  obtain ⟨rfl, rfl, rfl⟩ := trodAll_nil r4
  obtain rfl : args = #[v0, v1, v2, v3, v4] := by cases args; simp_all
  obtain ⟨rfl, rfl⟩ := trodVars_none hV
  obtain ⟨a0, rfl, rfl, rfl, w0⟩ := open_int Try.underlying3 (hval 0 3 v0 rfl rfl) h0
  obtain ⟨a1, len1, cap1, rfl⟩ := okWide_slice Try.underlying22 (hval 1 22 v1 rfl rfl)
  have k1 := h1
  have lt1 : ∀ x ∈ p1, x.block < W.heap.size := by obtain ⟨m, hm⟩ := k1; exact DataW.trod_lt m _ _ _ hm
  obtain ⟨z1, w1⟩ : ∃ zs, IsRow .i64 W a1 len1 cap1 zs := by
    obtain ⟨fuel, hf⟩ := h1
    rcases open_ints Try.underlying22 Try.underlying3 (by kernel_rfl) hf with ⟨hcs, _⟩ | ⟨x, l, c, zs, hcs, _, hl, hm, hz, _, hcell, hwz⟩
    · simp [Value.cells] at hcs
      obtain ⟨rfl, rfl, rfl⟩ := hcs
      exact ⟨[], .inl ⟨rfl, rfl, rfl, rfl⟩⟩
    · simp [Value.cells] at hcs
      obtain ⟨rfl, rfl, rfl⟩ := hcs
      exact ⟨zs, .inr ⟨_, rfl, hl, hm, by simpa using hz, hcell, hwz⟩⟩
  obtain ⟨a2, rfl, rfl, rfl, w2⟩ := open_int Try.underlying3 (hval 2 3 v2 rfl rfl) h2
  obtain ⟨a3, rfl, rfl, rfl, w3⟩ := open_int Try.underlying3 (hval 3 3 v3 rfl rfl) h3
  obtain ⟨a4, rfl, rfl, rfl, w4⟩ := open_int Try.underlying3 (hval 4 3 v4 rfl rfl) h4
  clear hA0 hval0
  refine (walk a0 a1 len1 cap1 z1 a2 a3 a4 W w0 w1 w2 w3 w4).mono fun e W' ⟨he, bel⟩ => ?_
  subst he
  exact ⟨_, rfl, _, _, _, [], _, [], hW', trodAll_mk1 (shut_bool Try.underlying4 _), (trodAll_cons_mk (shut_int Try.underlying3 w0) (trodAll_cons_mk (Below.trod laidOut (by kernel_rfl) (of_decide_eq_true (by kernel_rfl)) k1 bel lt1) (trodAll_cons_mk (shut_int Try.underlying3 w2) (trodAll_cons_mk (shut_int Try.underlying3 w3) (trodAll_cons_mk (shut_int Try.underlying3 w4) trodAll_mk0))))), rfl, bel.frame _, fun h => by cases h⟩

theorem over : Rows.braidRelationsRow.holds Try.pinned (OpenSpec.ofChange Rows.braidRelationsSpec) :=
  OpenClaim.holds_of_wide 4 Try.f4 rfl rfl rfl rfl rfl rfl rfl ⟨rfl, rfl, rfl, rfl, rfl⟩ rfl rfl rfl rfl rfl (by kernel_rfl) Try.func4 (by kernel_rfl)
    (of_decide_eq_true (by kernel_rfl)) (by unfold Func.isWrapper; first | (rw [if_pos (by decide +kernel)]; kernel_rfl) | (rw [if_neg (by decide +kernel)]; exact ⟨rfl, rfl⟩))
    (fun os started H enc _ => lifted os started H enc)

/-- ████ THE STATEMENT ████ -/
theorem proved : Rows.BraidRelationsSaid := over
#print axioms proved
end Go.Proofs.Ytlnmboiangnpfaa.braidRelations
