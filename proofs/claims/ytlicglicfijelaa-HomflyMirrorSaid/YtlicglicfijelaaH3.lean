/- Walks: rings. -/
import Derived.Maps.OwnOps
import Derived.Test.YtlicglicfijelaaH2
import Derived.Test.YtlicglicfijelaaMAllc
namespace Go.Proofs.Ytlicglicfijelaa
open Go.RowKit
open Kn (E2 L2 cf szL sl exB rgL)
open Go.Maps (Keyed)

theorem wpList_insert_own {H : Type} {P : Program} (w : World) {ops : Array Oper} {rest : List Oper} {o : Oper} {a : Act} {Q : Exit → Act → World → Prop}
    (hg : o.guard = none) (m x v : Operand) (t : TypeId) (hop : o.op = Op.insert t m x v)
    (k e : TypeId) (K : Keyed P k) (ht : P.underlying t = some (.map k e)) (R : Value → Option (DataW H × List MemPlace)) (b n : Nat) (D : DataW H)
    (hm : a.eval m = .map (some b)) (hown : w.ownsMap P k R b n D) (hn : n < maxLen) (key val : Value) (kl : Lit) (hx : a.eval x = key) (hv : a.eval v = val) (hkey : keyOf P k key = some kl)
    (d : DataW H) (ps : List MemPlace) (hval : R val = some (d, ps))
    (hK : ∀ w', w'.ownsMap P k R b (n + 1) (D.put kl d) → w.grownBy w' (some b) → wpList P ops Q rest (a.put o.dst undef) w') :
    wpList P ops Q (o :: rest) a w := by
  refine wpList_plain hg fun K' hK' => ?_
  obtain ⟨w', hrun, r1, r2⟩ := hown.update K ht hn hkey hval
  unfold Oper.wp
  simp [execOp, hop, hm, hx, hv, hrun, Result.andThen]
  exact hK' _ _ (hK w' r1 r2)
set_option maxRecDepth 100000 in
set_option maxHeartbeats 4000000 in
theorem rgs_any (n : Nat) (hn : 1 ≤ n) (hn2 : n ≤ 50) (w : World) :
    Calls Try.prog 26 #[.int .i64 n] w fun e w' => ∃ mb, e = .returned (.map (some mb)) ∧ Hid (PMap w' mb (szL (rgL n (n - 1))) (rgL n (n - 1))) ∧ New w w' := by
  have hmm := @run_makeMap Try.prog
  obtain ⟨mb, HMB⟩ : ∃ cb, Hid (cb = w.heap.size) := ⟨_, Lib.hid rfl⟩
  obtain ⟨wa, HWA⟩ : ∃ z, Hid (z = w.alloc (.map #[] 0)) := ⟨_, Lib.hid rfl⟩
  obtain ⟨z, HZ⟩ : ∃ z : Int, Hid (z = 1 - (n : Int)) := ⟨_, Lib.hid rfl⟩
  have x1 : IntKind.i64.wrap (1 - (n : Int)) = z := by rw [IntWalk.i64_in _ (by omega), HZ.out]
  have HOa : Hid (wa.ownsMap (H := Unit) Try.prog 51 (plainElem Try.prog 3) mb 0 (.map [])) := Lib.hid (by rw [HWA.out, HMB.out]; exact World.ownsMap_made _ _ _ _)
  have HNa : Hid (New w wa) := Lib.hid (by rw [HWA.out]; exact (Fr.refl _ _).alloc _)
  obtain ⟨kl, hkl⟩ := pKey (p := (0, z)) (by rw [HZ.out]; unfold isPw; simp only; omega)
  have HKL := Lib.hid hkl
  clear hkl
  go_enter Try.func26, Try.ntmps26
  go_wp2_with (first
    | (rw [← HWA.out, ← HMB.out]; refine wpList_insert_own _ rfl _ _ _ 43 rfl 51 3 Try.law51 Try.ul43 _ _ 0 _ rfl HOa.out (by unfold maxLen; omega) _ _ _ rfl rfl HKL.out _ [] (plainElem_int Try.underlying3 (wf64 (by omega))) ?_; intro w3 hown2 hg2; have HO3 := Lib.hid hown2; have HN3 : Hid (New w w3) := (Lib.hid (HNa.out.grown hg2 fun k ek => .inr (by cases ek; rw [HMB.out]; exact Nat.le_refl _))); clear hown2 hg2)
    | go_in)
  have HP3 : Hid (PMap w3 mb (szL (rgL n 0)) (rgL n 0)) := Lib.hid ⟨_, HO3.out, by
    have h := PD.put (c := 1) PD.empty HKL.out
    have e : cf [] ((0, z) : E2) + 1 = 1 := by simp [cf, Kn.tt_nil]
    rw [e] at h
    have e2 : rgL n 0 = [] ++ [(((0, z) : E2), (1 : Int))] := by rw [HZ.out]; rfl
    rw [e2]; exact h⟩
  have hn1 : IntKind.i64.wrap ((n : Int) - 1) = (n : Int) - 1 := IntWalk.i64_in _ (by omega)
  have h1n : (1 : Int) ≤ (n : Int) := by omega
  go_loopw [3, 4, 12] (fun ov _ i wr => ∃ (j b : Nat), j + 1 ≤ n ∧ i = .int .i64 j ∧ ov = .map (some b) ∧ Hid (PMap wr b (szL (rgL n j)) (rgL n j)) ∧ Hid (New w wr)) (fun _ _ i _ => n - (intOf i).toNat)
  case atStart => exact ⟨0, mb, by omega, rfl, rfl, HP3, HN3⟩
  case round =>
    obtain ⟨j, b, hj, rfl, rfl, HP, HF⟩ := hrel
    by_cases hlt : j + 1 < n
    · have hlt' : (j : Int) < (n : Int) - 1 := by omega
      obtain ⟨b2, HB2⟩ : ∃ z, Hid (z = wr.heap.size) := ⟨_, Lib.hid rfl⟩
      obtain ⟨l, HL⟩ : ∃ z, Hid (z = rgL n j) := ⟨_, Lib.hid rfl⟩
      obtain ⟨sz, HSS⟩ : ∃ z, Hid (z = szL l) := ⟨_, Lib.hid rfl⟩
      obtain ⟨u0, HU0⟩ : ∃ z, Hid (z = wr.alloc (.map #[] 0)) := ⟨_, Lib.hid rfl⟩
      have hbb : b2 ≠ b := by rw [HB2.out]; have := HP.out.lt; omega
      have HNu : Hid (New wr u0) := Lib.hid (by rw [HU0.out]; exact (Fr.refl _ _).alloc _)
      have HP0 : Hid (PMap u0 b2 0 []) := Lib.hid (by rw [HU0.out, HB2.out]; exact PMap.made wr)
      have HPb : Hid (PMap u0 b sz l) := Lib.hid (by rw [HSS.out, HL.out]; exact HP.out.fr HNu.out fun x => x)
      have hsz : sz ≤ 1125899906842624 := by rw [HSS.out, HL.out, Kn.rgL_sz]; exact Nat.le_trans (Nat.pow_le_pow_right (by decide) (show j ≤ 50 by omega)) (by decide)
      have hex : exB 1000000 l := by rw [HL.out]; exact (Kn.rgL_ex n j).mono (by omega)
      have HEX := Lib.hid hex
      clear hex HP
      go_wp2_with fail
      rw [← HU0.out, ← HB2.out]
      refine (add_any b2 b 0 sz [] l 1 0 1 u0 HP0.out HPb.out hbb (.inl rfl) (by omega) (by omega) HEX.out (by have e : szL [] = 0 := rfl; rw [e, ← HSS.out]; omega) (by omega)).mono ?_
      rintro e w4 ⟨rfl, hP, hF⟩
      rw [Nat.zero_add, List.nil_append] at hP
      have HP4 := Lib.hid hP
      have HPb4 : Hid (PMap w4 b sz l) := Lib.hid (HPb.out.fr hF fun e => hbb e.symm)
      have HF4 : Hid (New w w4) := Lib.hid ((HF.out.trans HNu.out).next hF fun i hi => .inr (by rw [hi, HB2.out]; exact HF.out.size))
      have HG4 : Hid (Fr (fun k => k = b2) u0 w4) := Lib.hid hF
      clear hP hF
      go_wp2_with fail
      refine (add_any b2 b sz sz (sl (1, 0) 1 l) l (-1) 0 (-1) w4 HP4.out HPb4.out hbb (.inr rfl) (by omega) (by omega) HEX.out (by rw [Kn.szL_sl _ rfl, ← HSS.out]; omega) (by omega)).mono ?_
      rintro e w5 ⟨rfl, hP, hF⟩
      have HP5 : Hid (PMap w5 b2 (szL (rgL n (j + 1))) (rgL n (j + 1))) := Lib.hid (by
        have e1 : rgL n (j + 1) = sl (1, 0) 1 l ++ sl (-1, 0) (-1) l := by rw [HL.out]; rfl
        have e2 : szL (rgL n (j + 1)) = sz + sz := by rw [e1, Kn.szL_app, Kn.szL_sl _ rfl, Kn.szL_sl _ rfl, ← HSS.out]
        rw [e2, e1]; exact hP)
      have HF5 : Hid (New w w5) := Lib.hid (HF4.out.next hF fun i hi => .inr (by rw [hi, HB2.out]; exact HF.out.size))
      clear hP hF
      go_wp2_with fail
      go_roundw
      case rel => exact ⟨j + 1, b2, by omega, by go_num, rfl, HP5, HF5⟩
      case measure => simp [intOf]; omega
    · have hnl : ¬ (j : Int) < (n : Int) - 1 := by omega
      go_wp2
      go_ret
      obtain rfl : j = n - 1 := by omega
      exact ⟨b, rfl, HP, HF.out⟩
end Go.Proofs.Ytlicglicfijelaa
