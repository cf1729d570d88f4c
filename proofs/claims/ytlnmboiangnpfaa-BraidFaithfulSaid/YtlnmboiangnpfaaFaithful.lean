/-
  THE SHELL OF A PROOF OF 'Rows.BraidFaithfulSaid' ('knotwork/knotworkkeep.BraidFaithful'), WRITTEN BY PROGRAM (proof-skeleton.mjs, third state) off the guide's own print for that function. Not trusted: Lean checks it.
  YOURS IS THE HOLE MARKED 'HOLE' (it bears 'sorry'). ALL ELSE IS THE GUIDE's OWN WAY (howto/template/XProofs.lean; Derived/Test/ChunkProofs.lean for 'Below') at this function's number and types: leave it.
-/
import Derived.Test.YtlnmboiangnpfaaRows
import Derived.WalkKit
import Derived.ProofKit
import Derived.OpenShut
import Derived.ShutString
import Derived.ChangeOld
import Derived.Below
import Derived.Test.YtlnmboiangnpfaaW16
namespace Go.Proofs.Ytlnmboiangnpfaa.braidFaithful
open Go.ChangeShapes Go.WideShapes Go.ChangeAt Go.RowKit
open Go.ChangeMaps (open_string shut_string)
set_option linter.unusedVariables false

theorem own : ownKnob Try.prog.godebug = none := by kernel_rfl
theorem laidOut : laidOutB Try.prog = true := by kernel_rfl

/-- WHAT THE WALK IS TOLD OF A SLICE OF INTEGERS THAT CAME IN: it is nil; or it leads to a row of 'cap' cells, the numbers 'zs' (the first 'len' are its elements, the rest its spare room), each fitting its kind. -/
def IsRow (k : IntKind) (w : World) (a : Option Addr) (len cap : Nat) (zs : List Int) : Prop :=
  (a = none ∧ len = 0 ∧ cap = 0 ∧ zs = []) ∨
  ∃ x, a = some x ∧ len ≤ cap ∧ cap ≤ maxLen ∧ zs.length = cap ∧ (∀ i, i < zs.length → w.cell? (x.add i) = some (.int k (zs.getD i 0))) ∧ ∀ n ∈ zs, (Lit.int k n).wf = true

theorem raw_of_wf {zs : List Int} (h : ∀ n ∈ zs, (Lit.int .i64 n).wf = true) : Raw zs := fun x hx => by
  have := bounds_i64 (h x hx)
  omega
theorem raw_in {w : World} {a : Option Addr} {len cap : Nat} {zs : List Int} (h : IsRow .i64 w a len cap zs) : ∃ raw, len = raw.length ∧ IntsAt w a raw ∧ Raw raw ∧ raw.length ≤ 9223372036854775807 := by
  rcases h with ⟨rfl, rfl, rfl, rfl⟩ | ⟨x, rfl, hl, hm, hz, hc, hw⟩
  · exact ⟨[], rfl, .inl rfl, (fun _ h => by cases h), by simp⟩
  · refine ⟨zs.take len, by rw [List.length_take]; omega, ?_, raw_of_wf fun n hn => hw n (List.mem_of_mem_take hn), by rw [List.length_take]; unfold maxLen at hm; omega⟩
    by_cases h0 : len = 0
    · subst h0; exact .inl (by simp)
    · obtain ⟨b, o, rfl, hc'⟩ := ints_at hc (by omega)
      refine .inr ⟨b, o, rfl, fun i hi => ?_⟩
      rw [List.length_take] at hi
      rw [hc' i (by omega)]
      simp [List.getD_eq_getElem?_getD, List.getElem?_take, show i < len from by omega]
theorem nf_word {n : Nat} (hn : n ∈ Bd.ns) {xs : List Int} (hw : Bd.Word n xs) : Bd.AllP n (Bd.run n Bd.start xs).2 := Bd.run_allP hn hw fun _ h => by cases h

/-! ### STEP 1: THE WALK: the Go text returns true, AND WRITES NOTHING THAT WAS THERE: 'Below w.heap.size w w'' (Derived/Below.lean: '.refl', '.alloc', '.drew', '.setCell' at a new block, '.trans'). Open each 'IsRow' by 'rcases' AHEAD of 'go_enter'; part every test ahead of the walk. -/
theorem walk (a0 : Int) (a1 : Option Addr) (len1 cap1 : Nat) (z1 : List Int) (a2 : Option Addr) (len2 cap2 : Nat) (z2 : List Int) (w : World) (w0 : (Lit.int .i64 a0).wf = true) (w1 : IsRow .i64 w a1 len1 cap1 z1) (w2 : IsRow .i64 w a2 len2 cap2 z2) :
    Calls Try.prog 3 #[.int .i64 a0, .slice a1 len1 cap1, .slice a2 len2 cap2] w fun e w' => e = .returned (.bool true) ∧ Below w.heap.size w w' := by
  obtain ⟨r1, rfl, hi1, hr1, hb1⟩ := raw_in w1
  obtain ⟨r2, rfl, hi2, hr2, hb2⟩ := raw_in w2
  have hb0 := bounds_i64 w0
  have hp := pick_range (n := a0) (m := 4) (by omega)
  have cc := Lib.hid (picked_any a0 4 w (by omega) (by omega) (by omega) (by omega))
  obtain ⟨n, HNe⟩ : ∃ n : Nat, Hid ((n : Int) = 2 + pick a0 4) := ⟨(2 + pick a0 4).toNat, Lib.hid (by omega)⟩
  have hn2 : 2 ≤ n := by have := HNe.out; omega
  have hn5 : n ≤ 5 := by have := HNe.out; omega
  have HN := Lib.hid (Bd.mem_ns hn2 hn5)
  have HI1 := Lib.hid hi1
  have HI2 := Lib.hid hi2
  have HR1 := Lib.hid hr1
  have HR2 := Lib.hid hr2
  obtain ⟨pk, HPk⟩ : ∃ pk, Hid (pk = pick a0 4) := ⟨_, Lib.hid rfl⟩
  have hpk : Hid ((2 : Int) + pk = n) := Lib.hid (by rw [HPk.out, HNe.out])
  rw [← HPk.out] at cc hp
  have hp1 := hp.1
  have hp2 := hp.2
  clear w0 w1 w2 hi1 hi2 hr1 hr2 hb0 hp
  go_enter Try.func3, Try.ntmps3
  go_wp2_with fail
  refine cc.out.mono ?_
  rintro e wa ⟨rfl, rfl⟩
  go_wp2_with fail
  rw [hpk.out]
  refine (word_any _ _ _ n 12 n 12 r1 _ rfl rfl rfl hn2 hn5 (by omega) HI1.out hb1 HR1.out).mono ?_
  rintro e wb ⟨xs, hw1, hl1, a3, c3, rfl, hx1, _, hf1⟩
  have HX1 := Lib.hid hx1
  have HW1 := Lib.hid hw1
  have HF1 := Lib.hid hf1
  clear hx1 hw1 hf1
  go_wp2_with fail
  refine (word_any _ _ _ n 12 n 12 r2 _ rfl rfl rfl hn2 hn5 (by omega) (New.ints HF1.out HI2.out) hb2 HR2.out).mono ?_
  rintro e wc ⟨ys, hw2, hl2, a4, c4, rfl, hx2, _, hf2⟩
  have HX2 := Lib.hid hx2
  have HW2 := Lib.hid hw2
  have HF2 := Lib.hid (HF1.out.trans hf2)
  have HX12 := Lib.hid (New.ints hf2 HX1.out)
  clear hx2 hw2 hf2
  go_wp2_with fail
  refine (braidEqual_any _ _ _ _ _ _ n n xs ys _ rfl rfl rfl HN.out HX12.out HX2.out (by omega) (by omega) HW1.out HW2.out).mono ?_
  rintro e wd ⟨s1, t1, hs1, ht1, rfl, hf3⟩
  have HS1 := Lib.hid hs1
  have HT1 := Lib.hid ht1
  have HF3 := Lib.hid (HF2.out.trans hf3)
  have HX13 := Lib.hid (New.ints hf3 HX12.out)
  have HX23 := Lib.hid (New.ints hf3 HX2.out)
  clear hs1 ht1 hf3
  obtain ⟨ok, HOk⟩ : ∃ ok : Bool, Hid (ok = decide (s1 = t1)) := ⟨_, Lib.hid rfl⟩
  rw [← HOk.out]
  go_wp2_with fail
  refine (told_any _ _ _ _ _ _ n n xs ys _ rfl rfl rfl HN.out HX13.out HX23.out (by omega) (by omega) HW1.out HW2.out).mono ?_
  rintro e we ⟨s2, t2, hs2, ht2, rfl, hf4⟩
  have HS2 := Lib.hid hs2
  have HT2 := Lib.hid ht2
  have HF4 := Lib.hid (HF3.out.trans hf4)
  have HX14 := Lib.hid (New.ints hf4 HX13.out)
  clear hs2 ht2 hf4
  have hform : decide (s2 = t2) = ok := by
    have e1 := Bd.isNf_unique HN.out (nf_word HN.out HW1.out) HS1.out HS2.out
    have e2 := Bd.isNf_unique HN.out (nf_word HN.out HW2.out) HT1.out HT2.out
    rw [HOk.out, e1, e2]
  have hact : (Bd.actL n xs == Bd.actL n ys) = ok := by
    have e1 := Bd.nf_iff HN.out HW1.out HW2.out HS1.out HT1.out
    rw [HOk.out, Bool.eq_iff_iff, beq_iff_eq, decide_eq_true_iff]
    exact e1.symm
  rw [hform, hact]
  clear hform hact
  go_wp2_with fail
  refine (braidEqual_any _ _ _ _ _ _ n n xs xs _ rfl rfl rfl HN.out HX14.out HX14.out (by omega) (by omega) HW1.out HW1.out).mono ?_
  rintro e wf ⟨s3, t3, hs3, ht3, rfl, hf5⟩
  have hown : decide (s3 = t3) = true := by
    rw [decide_eq_true_iff]
    exact Bd.isNf_unique HN.out (nf_word HN.out HW1.out) hs3 ht3
  rw [hown]
  have HF5 := Lib.hid (HF4.out.trans hf5)
  clear hown hs3 ht3 hf5
  cases ok
  all_goals
    go_wp2
    go_ret
    exact ⟨rfl, Fr.below HF5.out fun k hk => ⟨hk, fun x => x⟩⟩

/-! ### THE ROW's STEP: WRITTEN OUT: LEAVE IT -/
set_option maxRecDepth 100000 in
theorem lifted (os : Os) (started : os.Started) (H : Type) (enc : TypeId × Value → H) :
    ReturnsInHanded {} Try.checked os 3 .any (Rows.braidFaithfulSpec.pre6 enc Try.prog Try.f3 Rows.braidFaithfulRow.domain false) (Rows.braidFaithfulSpec.post enc Try.prog Try.f3 false true false false) := by
  refine returnsInHanded_of_change (C := Try.checked) own started (by kernel_rfl) Try.func3
    (ChangeSpec.witness6 (enc := enc) (C := Try.checked) false ⟨#[], #[.int .i64 0, .slice none 0 0, .slice none 0 0], []⟩ 8 (by kernel_rfl) (by kernel_rfl) (by kernel_rfl) (by kernel_rfl)) ?_
  intro W base args ds gs before hval0 hW hcnd _
  have hval : ∀ (j : Nat) t v, Try.f3.params[j]? = some t → args[j]? = some v → Value.okWide Try.prog W .any base t v := hval0
  have hW' := hW
  obtain ⟨p, q, hA0, hV, rfl, hfz, hnd⟩ := hW
  have hA : DataW.TrodAll enc Try.prog W 0 (fun _ => true) true Try.f3.params.toList args.toList ds p := hA0
  rw [Try.params3] at hA hval
  obtain ⟨v0, vs0, d0, ds0, p0, q0, hargs, rfl, rfl, h0, r0⟩ := trodAll_cons hA
  obtain ⟨v1, vs1, d1, ds1, p1, q1, rfl, rfl, rfl, h1, r1⟩ := trodAll_cons r0
  obtain ⟨v2, vs2, d2, ds2, p2, q2, rfl, rfl, rfl, h2, r2⟩ := trodAll_cons r1
  obtain ⟨rfl, rfl, rfl⟩ := trodAll_nil r2
  obtain rfl : args = #[v0, v1, v2] := by cases args; simp_all
  obtain ⟨rfl, rfl⟩ := trodVars_none hV
  obtain ⟨a0, rfl, rfl, rfl, w0⟩ := open_int Try.underlying3 (hval 0 3 v0 rfl rfl) h0
  obtain ⟨a1, len1, cap1, rfl⟩ := okWide_slice Try.underlying22 (hval 1 22 v1 rfl rfl)
  have k1 := h1
  have lt1 : ∀ x ∈ p1, x.block < W.heap.size := by obtain ⟨m, hm⟩ := k1; exact DataW.trod_lt m _ _ _ hm
  obtain ⟨z1, w1⟩ : ∃ zs, IsRow .i64 W a1 len1 cap1 zs := by
    obtain ⟨fuel, hf⟩ := h1
    rcases open_ints Try.underlying22 Try.underlying3 (by kernel_rfl) hf with ⟨hcs, _⟩ | ⟨x, l, c, zs, hcs, _, hl, hm, hz, _, hcell, hwz⟩
    · simp [Value.cells] at hcs
      obtain ⟨rfl, rfl, rfl⟩ := hcs
      exact ⟨[], .inl ⟨rfl, rfl, rfl, rfl⟩⟩
    · simp [Value.cells] at hcs
      obtain ⟨rfl, rfl, rfl⟩ := hcs
      exact ⟨zs, .inr ⟨_, rfl, hl, hm, by simpa using hz, hcell, hwz⟩⟩
  obtain ⟨a2, len2, cap2, rfl⟩ := okWide_slice Try.underlying22 (hval 2 22 v2 rfl rfl)
  have k2 := h2
  have lt2 : ∀ x ∈ p2, x.block < W.heap.size := by obtain ⟨m, hm⟩ := k2; exact DataW.trod_lt m _ _ _ hm
  obtain ⟨z2, w2⟩ : ∃ zs, IsRow .i64 W a2 len2 cap2 zs := by
    obtain ⟨fuel, hf⟩ := h2
    rcases open_ints Try.underlying22 Try.underlying3 (by kernel_rfl) hf with ⟨hcs, _⟩ | ⟨x, l, c, zs, hcs, _, hl, hm, hz, _, hcell, hwz⟩
    · simp [Value.cells] at hcs
      obtain ⟨rfl, rfl, rfl⟩ := hcs
      exact ⟨[], .inl ⟨rfl, rfl, rfl, rfl⟩⟩
    · simp [Value.cells] at hcs
      obtain ⟨rfl, rfl, rfl⟩ := hcs
      exact ⟨zs, .inr ⟨_, rfl, hl, hm, by simpa using hz, hcell, hwz⟩⟩
  clear hA0 hval0
  refine (walk a0 a1 len1 cap1 z1 a2 len2 cap2 z2 W w0 w1 w2).mono fun e W' ⟨he, bel⟩ => ?_
  subst he
  exact ⟨_, rfl, _, _, _, [], _, [], hW', trodAll_mk1 (shut_bool Try.underlying4 _), (trodAll_cons_mk (shut_int Try.underlying3 w0) (trodAll_cons_mk (Below.trod laidOut (by kernel_rfl) (of_decide_eq_true (by kernel_rfl)) k1 bel lt1) (trodAll_cons_mk (Below.trod laidOut (by kernel_rfl) (of_decide_eq_true (by kernel_rfl)) k2 bel lt2) trodAll_mk0))), rfl, bel.frame _, fun h => by cases h⟩

theorem over : Rows.braidFaithfulRow.holds Try.pinned (OpenSpec.ofChange Rows.braidFaithfulSpec) :=
  OpenClaim.holds_of_wide 3 Try.f3 rfl rfl rfl rfl rfl rfl rfl ⟨rfl, rfl, rfl, rfl, rfl⟩ rfl rfl rfl rfl rfl (by kernel_rfl) Try.func3 (by kernel_rfl)
    (of_decide_eq_true (by kernel_rfl)) (by unfold Func.isWrapper; first | (rw [if_pos (by decide +kernel)]; kernel_rfl) | (rw [if_neg (by decide +kernel)]; exact ⟨rfl, rfl⟩))
    (fun os started H enc _ => lifted os started H enc)

/-- ████ THE STATEMENT ████ -/
theorem proved : Rows.BraidFaithfulSaid := over
#print axioms proved
end Go.Proofs.Ytlnmboiangnpfaa.braidFaithful
