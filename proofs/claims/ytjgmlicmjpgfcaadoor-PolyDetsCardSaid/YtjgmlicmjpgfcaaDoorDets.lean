/- For every two slices of slices of numbers the call of PolyDets returns true and leaves its arguments as they were. Its condition: the variable knotworkkeep.wrong reads at the start as the program lays it (tied). The frame of the proof is the shell of proof-skeleton.mjs, turned to two slices of slices. -/
import Derived.Test.YtjgmlicmjpgfcaaDoorRows
import Derived.WalkKit
import Derived.ProofKit
import Derived.OpenShut
import Derived.ShutString
import Derived.ChangeOld
import Derived.Below
import Derived.Deep.Matrix
import Derived.LaidMore
import Derived.Stop.Joined
import Derived.SevenTiedAt
import Derived.Test.YtjgmlicmjpgfcaaDoorCards
import Derived.Test.YtjgmlicmjpgfcaaDoorTie
import Derived.Test.YtjgmlicmjpgfcaaDoorW19
namespace Go.Proofs.YtjgmlicmjpgfcaaDoor.polyDets
open Go.ChangeShapes Go.WideShapes Go.ChangeAt Go.RowKit
open Go.ChangeMaps (open_string shut_string)
set_option linter.unusedVariables false

theorem own : ownKnob Tryd.prog.godebug = none := by kernel_rfl
theorem laidOut : laidOutB Tryd.prog = true := by kernel_rfl

theorem raw_of_wf {zs : List Int} (h : ∀ n ∈ zs, (Lit.int .i64 n).wf = true) : Raw zs := fun x hx => by
  have := bounds_i64 (h x hx)
  omega
theorem flat_addr {w : World} {x : Addr} {v : Value} (h : w.cell? (x.add 0) = some v) : ∃ b o, x = ⟨b, o, none⟩ := by
  obtain ⟨b, o, t⟩ := x
  have ht : t = none := by simpa [Addr.add] using World.cell?_spot h
  subst ht
  exact ⟨b, o, rfl⟩
theorem rawAt_of {w : World} {a : Option Addr} {l c : Nat} {z : List Int} (hl : l ≤ c) (hm : c ≤ maxLen) (hz : z.length = c) (hw : ∀ n ∈ z, (Lit.int .i64 n).wf = true) (hn : a = none → c = 0)
    (hc : ∀ a', a = some a' → ∀ i, i < c → w.cell? (a'.add i) = some (.int .i64 (z.getD i 0))) : RawAt w (.slice a l c) (z.take l) := by
  have hlt : (z.take l).length = l := by rw [List.length_take]; omega
  refine ⟨a, c, by rw [hlt], ?_, raw_of_wf fun n hn => hw n (List.mem_of_mem_take hn), by rw [hlt]; unfold maxLen at hm; omega⟩
  by_cases h0 : l = 0
  · subst h0; exact .inl (by simp)
  · cases a with
    | none => have := hn rfl; omega
    | some x =>
      obtain ⟨b, o, rfl⟩ := flat_addr (hc x rfl 0 (by omega))
      refine .inr ⟨b, o, rfl, fun i hi => ?_⟩
      rw [hlt] at hi
      have h1 := hc _ rfl i (by omega)
      rw [addr_add] at h1
      rw [h1]
      simp [List.getD_eq_getElem?_getD, show i < l from hi]
theorem raws_in {w : World} {x : Addr} {len cap : Nat} {A : Nat → Option Addr} {L C : Nat → Nat} {Z : Nat → List Int} (hl : len ≤ cap) (hm : cap ≤ maxLen)
    (hr : ∀ r, r < cap → w.cell? (x.add r) = some (.slice (A r) (L r) (C r)) ∧ L r ≤ C r ∧ C r ≤ maxLen ∧ (Z r).length = C r ∧ (∀ n ∈ Z r, (Lit.int .i64 n).wf = true) ∧ (A r = none → C r = 0) ∧
        ∀ a', A r = some a' → 0 ≤ a'.block ∧ ∀ c, c < C r → w.cell? (a'.add c) = some (.int .i64 ((Z r).getD c 0))) : ∃ rs, Raws w (.slice (some x) len cap) rs := by
  refine ⟨(List.range len).map fun r => (Z r).take (L r), by simp; unfold maxLen at hm; omega, (List.range len).map fun r => .slice (A r) (L r) (C r), ⟨some x, cap, by simp, ?_⟩, by simp, fun i hi => ?_⟩
  · by_cases h0 : len = 0
    · subst h0; exact .inl rfl
    · obtain ⟨b, o, rfl⟩ := flat_addr (hr 0 (by omega)).1
      refine .inr ⟨b, o, rfl, fun i hi => ?_⟩
      have hi' : i < len := by simpa using hi
      have h1 := (hr i (by omega)).1
      rw [addr_add] at h1
      rw [h1]
      simp [List.getD_eq_getElem?_getD, hi']
  · have hi' : i < len := by simpa using hi
    have h1 := hr i (by omega)
    have e1 : ((List.range len).map fun r => Value.slice (A r) (L r) (C r)).getD i undef = .slice (A i) (L i) (C i) := by simp [List.getD_eq_getElem?_getD, hi']
    have e2 : ((List.range len).map fun r => (Z r).take (L r)).getD i default = (Z i).take (L i) := by simp [List.getD_eq_getElem?_getD, hi']
    rw [e1, e2]
    exact rawAt_of h1.2.1 h1.2.2.1 h1.2.2.2.1 h1.2.2.2.2.1 h1.2.2.2.2.2.1 fun a' ha => (h1.2.2.2.2.2.2 a' ha).2
theorem raws_nil (w : World) : Raws w (.slice none 0 0) [] := ⟨by simp, [], ⟨none, 0, rfl, .inl rfl⟩, rfl, fun i hi => by simp at hi⟩
theorem walk (v0 v1 : Value) (r0 r1 : List (List Int)) (w : World) (w0 : Raws w v0 r0) (w1 : Raws w v1 r1) :
    Calls Tryd.prog 4 #[v0, v1] w fun e w' => e = .returned (.bool true) ∧ Below w.heap.size w w' := by
  refine (dets_any v0 v1 r0 r1 w w0 w1).mono ?_
  rintro e w' ⟨he, hn⟩
  exact ⟨he, Fr.below hn fun k hk => ⟨hk, fun x => x⟩⟩

def laid1 : List (String × DataW Unit) := Rows.polyDetsRow.laid
theorem door_met (os : Os) (args : Array Value) : laidMetH Tryd.prog laid1 ((World.doorLaid Tryd.prog 14 os).forCall (fun _ _ => 0) ⟨#[], args, []⟩).memory :=
  laidMetH_of_parts3 (fuel := 8) (laidMet_of_run' 8 (by kernel_rfl) (by kernel_rfl)) (by kernel_rfl) (by kernel_rfl)

set_option maxRecDepth 100000 in
theorem lifted (os : Os) (started : os.Started) (H : Type) (enc : TypeId × Value → H) :
    ReturnsInHanded {} Tryd.checked os 4 .any (fun w args => (Rows.polyDetsSpec.pre enc Tryd.prog Tryd.f4 [] false w args ∧ laidMetH Tryd.prog laid1 w) ∧ sizedMet enc Tryd.prog Tryd.f4 (OpenSpec.ofChange Rows.polyDetsSpec) false w args) (Rows.polyDetsSpec.post enc Tryd.prog Tryd.f4 false true false false) := by
  refine returnsInHanded_of_change_and (C := Tryd.checked) (X := fun w _ => laidMetH Tryd.prog laid1 w) (fun _ _ _ hh h => h.of_heap hh) own started (by kernel_rfl) Tryd.func4
    (ChangeSpec.witness_shaped (enc := enc) (C := Tryd.checked) (os := os) (X := fun w _ => laidMetH Tryd.prog laid1 w) false (World.doorLaid Tryd.prog 14 os) #[.slice none 0 0, .slice none 0 0] 8 rfl (World.shaped_of_RefB (by kernel_rfl) (by kernel_rfl)) (by kernel_rfl) (by kernel_rfl) (by kernel_rfl) (door_met os _)) ?_
  intro W base args ds gs before hval0 hW _ _ hL _
  have hval : ∀ (j : Nat) t v, Tryd.f4.params[j]? = some t → args[j]? = some v → Value.okWide Tryd.prog W .any base t v := hval0
  have hW' := hW
  obtain ⟨p, q, hA0, hV, rfl, hfz, hnd⟩ := hW
  have hA : DataW.TrodAll enc Tryd.prog W 0 (fun _ => true) true Tryd.f4.params.toList args.toList ds p := hA0
  rw [Tryd.params4] at hA hval
  obtain ⟨v0, vs0, d0, ds0, p0, q0, hargs, rfl, rfl, h0, r0⟩ := trodAll_cons hA
  obtain ⟨v1, vs1, d1, ds1, p1, q1, rfl, rfl, rfl, h1, r1⟩ := trodAll_cons r0
  obtain ⟨rfl, rfl, rfl⟩ := trodAll_nil r1
  obtain rfl : args = #[v0, v1] := by cases args; simp_all
  obtain ⟨rfl, rfl⟩ := trodVars_none hV
  obtain ⟨a0, len0, cap0, rfl⟩ := okWide_slice Tryd.underlying35 (hval 0 35 v0 rfl rfl)
  have k0 := h0
  have lt0 : ∀ x ∈ p0, x.block < W.heap.size := by obtain ⟨m, hm⟩ := k0; exact DataW.trod_lt m _ _ _ hm
  obtain ⟨z0, w0⟩ : ∃ rs, Raws W (.slice a0 len0 cap0) rs := by
    obtain ⟨fuel, hf⟩ := h0
    rcases Deep.open_int_rows Tryd.underlying35 Tryd.underlying22 Tryd.underlying3 (by kernel_rfl) (by kernel_rfl) hf with ⟨hcs, _⟩ | ⟨x, l, c, A, L, C, Z, hcs, _, hl, hm, _, hr⟩
    · simp [Value.cells] at hcs
      obtain ⟨rfl, rfl, rfl⟩ := hcs
      exact ⟨[], raws_nil W⟩
    · simp [Value.cells] at hcs
      obtain ⟨rfl, rfl, rfl⟩ := hcs
      exact raws_in hl hm hr
  obtain ⟨a1, len1, cap1, rfl⟩ := okWide_slice Tryd.underlying35 (hval 1 35 v1 rfl rfl)
  have k1 := h1
  have lt1 : ∀ x ∈ p1, x.block < W.heap.size := by obtain ⟨m, hm⟩ := k1; exact DataW.trod_lt m _ _ _ hm
  obtain ⟨z1, w1⟩ : ∃ rs, Raws W (.slice a1 len1 cap1) rs := by
    obtain ⟨fuel, hf⟩ := h1
    rcases Deep.open_int_rows Tryd.underlying35 Tryd.underlying22 Tryd.underlying3 (by kernel_rfl) (by kernel_rfl) hf with ⟨hcs, _⟩ | ⟨x, l, c, A, L, C, Z, hcs, _, hl, hm, _, hr⟩
    · simp [Value.cells] at hcs
      obtain ⟨rfl, rfl, rfl⟩ := hcs
      exact ⟨[], raws_nil W⟩
    · simp [Value.cells] at hcs
      obtain ⟨rfl, rfl, rfl⟩ := hcs
      exact raws_in hl hm hr
  clear hA0 hval0
  refine (walk _ _ z0 z1 W w0 w1).mono fun e W' ⟨he, bel⟩ => ?_
  subst he
  exact ⟨_, rfl, _, _, _, [], _, [], hW', trodAll_mk1 (shut_bool Tryd.underlying4 _), (trodAll_cons_mk (Below.trod laidOut (by kernel_rfl) (of_decide_eq_true (by kernel_rfl)) k0 bel lt0) (trodAll_cons_mk (Below.trod laidOut (by kernel_rfl) (of_decide_eq_true (by kernel_rfl)) k1 bel lt1) trodAll_mk0)), rfl, bel.frame _, fun h => by cases h⟩

theorem over : Rows.polyDetsRow.holds Tryd.pinned (OpenSpec.ofChange Rows.polyDetsSpec) :=
  OpenClaim.holds_of_wide 4 Tryd.f4 rfl rfl rfl rfl rfl rfl rfl ⟨rfl, rfl, rfl, rfl, rfl⟩ rfl rfl rfl rfl rfl (by kernel_rfl) Tryd.func4 (by kernel_rfl)
    (of_decide_eq_true (by kernel_rfl)) (by unfold Func.isWrapper; first | (rw [if_pos (by decide +kernel)]; kernel_rfl) | (rw [if_neg (by decide +kernel)]; exact ⟨rfl, rfl⟩))
    (fun os started H enc _ => lifted os started H enc)

/-- THE STATEMENT: the card. -/
theorem proved : Rows.PolyDetsCardSaid :=
  Claim7.holds_tied_plain_at .later [] [.data] true (true, "237558286299c19651cc1d1a298984867e57b21c40a8f4ce0c7d0d1ec6b62306") true
    over (fun _ h => by cases h) (by kernel_rfl) (fun _ h => by cases h) polyDets_row_tie rfl ⟨rfl, rfl⟩ (by kernel_rfl) rfl
    (fun f fn hf hfn => by
      obtain rfl : f = 4 := Option.some.inj ((show Tryd.prog.funcNamed Rows.polyDetsRow.func = some 4 by kernel_rfl).symm.trans hf) |>.symm
      obtain rfl : fn = Tryd.f4 := (Option.some.inj (Tryd.func4.symm.trans hfn)).symm
      exact ⟨by kernel_rfl, fun j t ht => by
        rw [Tryd.params4] at ht
        have hm : t ∈ [35, 35] := by simpa using Array.mem_of_getElem? ht
        have hall : ([35, 35].all fun u => !Tryd.prog.wantsStandIn u) = true := by kernel_rfl
        exact (show Tryd.prog.wantsStandIn t = false by simpa using List.all_eq_true.1 hall t hm)⟩)
    (by kernel_rfl)
#print axioms proved
end Go.Proofs.YtjgmlicmjpgfcaaDoor.polyDets
