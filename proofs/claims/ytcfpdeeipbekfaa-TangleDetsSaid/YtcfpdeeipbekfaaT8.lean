/- Walks: ring (a whole strand; its last arc is its first one). -/
import Derived.Test.YtcfpdeeipbekfaaT7
namespace Go.Proofs.Ytcfpdeeipbekfaa
open Go.RowKit

/- the first k numbers changed -/
def mpT (f : Nat → Nat) (l : List Nat) (k : Nat) : List Nat := (l.take k).map f ++ l.drop k
theorem mpT_zero (f : Nat → Nat) (l : List Nat) : mpT f l 0 = l := by simp [mpT]
theorem mpT_all (f : Nat → Nat) (l : List Nat) : mpT f l l.length = l.map f := by simp [mpT]
theorem mpT_at (f : Nat → Nat) (l : List Nat) {k j : Nat} (h : k ≤ j) : (mpT f l k).getD j 0 = l.getD j 0 := by
  unfold mpT
  rw [List.getD_eq_getElem?_getD, List.getD_eq_getElem?_getD]
  by_cases c : j < l.length
  · rw [List.getElem?_append_right (by simp; omega), List.getElem?_drop]
    congr 2
    simp; omega
  · rw [List.getElem?_eq_none (by simp; omega), List.getElem?_eq_none (by omega)]
theorem mpT_succ (f : Nat → Nat) {l : List Nat} {k : Nat} (h : k < l.length) : (mpT f l k).set k (f (l.getD k 0)) = mpT f l (k + 1) := by
  unfold mpT
  rw [List.take_succ_eq_append_getElem h, List.drop_eq_getElem_cons h, List.set_append_right _ _ (by simp; omega)]
  rw [List.length_map, List.length_take, show k - min k l.length = 0 by omega, List.set_cons_zero, List.getD_eq_getElem?_getD, List.getElem?_eq_getElem h]
  simp only [List.map_append, List.map_cons, List.map_nil, List.append_assoc, List.cons_append, List.nil_append, Option.getD_some]
theorem mpT_same (f : Nat → Nat) {l : List Nat} {k : Nat} (h : k < l.length) (hf : f (l.getD k 0) = l.getD k 0) : mpT f l (k + 1) = mpT f l k := by
  unfold mpT
  rw [List.getD_eq_getElem?_getD, List.getElem?_eq_getElem h] at hf
  rw [List.take_succ_eq_append_getElem h, List.drop_eq_getElem_cons h]
  simp only [Option.getD_some] at hf
  simp only [List.map_append, List.map_cons, List.map_nil, List.append_assoc, List.cons_append, List.nil_append, hf]
theorem ix68 (a b c d : Int) (i : Nat) (hi : i < 4) (w : World) : (Instr.index 71 (.agg #[.int .i64 a, .int .i64 b, .int .i64 c, .int .i64 d]) (.int .i64 (i : Nat))).run Try.prog w = .ok (.int .i64 (if i = 0 then a else if i = 1 then b else if i = 2 then c else d)) w := by
  have h0 : (Instr.index 71 (.agg #[.int .i64 a, .int .i64 b, .int .i64 c, .int .i64 d]) (.int .i64 0)).run Try.prog w = .ok (.int .i64 a) w := by kernel_rfl
  have h1 : (Instr.index 71 (.agg #[.int .i64 a, .int .i64 b, .int .i64 c, .int .i64 d]) (.int .i64 1)).run Try.prog w = .ok (.int .i64 b) w := by kernel_rfl
  have h2 : (Instr.index 71 (.agg #[.int .i64 a, .int .i64 b, .int .i64 c, .int .i64 d]) (.int .i64 2)).run Try.prog w = .ok (.int .i64 c) w := by kernel_rfl
  have h3 : (Instr.index 71 (.agg #[.int .i64 a, .int .i64 b, .int .i64 c, .int .i64 d]) (.int .i64 3)).run Try.prog w = .ok (.int .i64 d) w := by kernel_rfl
  match i, hi with
  | 0, _ => exact h0
  | 1, _ => exact h1
  | 2, _ => exact h2
  | 3, _ => exact h3
theorem ring_step {t : Kn.Tg} {c s arc : Nat} {W : Kn.Wl} {R : Nat × Kn.Wl} (h : Kn.ringF t c s arc W = some R) : ∃ e W', Kn.walkF t (2 * t.many + 1) c s arc W = some (e, W') ∧ R = (e, ⟨W'.arcs.map fun a => if a = e then arc else a, W'.inn⟩) := by
  unfold Kn.ringF at h
  split at h
  · cases h
  · rename_i e W' he
    exact ⟨e, W', he, by simpa using h.symm⟩
set_option maxRecDepth 100000 in
set_option maxHeartbeats 8000000 in
theorem ring_any (B0 wb b mt nn mp np ab ib n c0 s0 arc0 A : Nat) (v : Value) (t : Kn.Tg) (W0 : Kn.Wl) (w : World) (h : WkAt B0 w wb b mt nn mp np ab ib n v t W0) (hv : ∀ k, v.ownBlock = some k → ¬ k = ab) (h0 : 0 < n) (h16 : n ≤ 16) (R : Nat × Kn.Wl) (hr : Kn.ringF t c0 s0 arc0 W0 = some R) (hA : arc0 + (2 * n + 1) ≤ A) (hA1 : A ≤ 100000) :
    Calls Try.prog 26 #[.pointer (some ⟨wb, 0, none⟩), .int .i64 (c0 : Nat), .int .i64 (s0 : Nat), .int .i64 (arc0 : Nat)] w fun e w' => e = .returned (.int .i64 (R.1 : Nat)) ∧ WkAt B0 w' wb b mt nn mp np ab ib n v t R.2 ∧ R.1 ≤ A ∧ Fr (fun k => k = ab ∨ k = ib) w w' := by
  obtain ⟨e, W1, hw, rfl⟩ := ring_step hr
  rw [← h.hn] at hw
  have CC := Lib.hid (walk_any B0 wb b mt nn mp np ab ib n c0 s0 arc0 (2 * n + 1) A v t W0 w h hv h0 h16 (e, W1) hw hA hA1)
  have HV := Lib.hid hv
  clear h hv hr hw
  go_enter Try.func26, Try.ntmps26
  go_wp2_with fail
  refine CC.out.mono ?_
  rintro e5 w1 ⟨rfl, hW1, he, hF⟩
  have HW1 := Lib.hid hW1
  have HF1 := Lib.hid hF
  have he' : e ≤ A := he
  obtain ⟨f, HF⟩ : ∃ f : Nat → Nat, Hid (f = fun a => if a = e then arc0 else a) := ⟨_, Lib.hid rfl⟩
  have ha0 : arc0 ≤ A := by omega
  obtain ⟨z0, z1, z2, z3⟩ := four_c hW1.blk
  clear CC hW1 hF he
  have HLA : Hid (W1.arcs.length = 4 * n) := Lib.hid HW1.out.la
  go_wp2_with fail
  clear z0 z1 z2 z3
  go_loopw [23] (fun cv wr => ∃ c : Nat, c ≤ n ∧ cv = .int .i64 c ∧ Hid (WkAt B0 wr wb b mt nn mp np ab ib n v t ⟨mpT f W1.arcs (c * 4), W1.inn⟩) ∧ Hid (Fr (fun k => k = ab ∨ k = ib) w wr)) (fun cv _ => n - (intOf cv).toNat)
  case atStart => exact ⟨0, by omega, rfl, Lib.hid (by rw [Nat.zero_mul, mpT_zero]; exact HW1.out), HF1⟩
  case round =>
    obtain ⟨c, hc, rfl, HW, HFr⟩ := hrel
    by_cases hlt : c < n
    · obtain ⟨z0, z1, z2, z3⟩ := four_c HW.out.blk
      have hcell : ∀ i, i < 4 → wr.cell? ⟨ab, c * 4 + i, none⟩ = some (.int .i64 (W1.arcs.getD (c * 4 + i) 0 : Nat)) := fun i hi => by
        have h1 := HW.out.arcs.cell (i := c * 4 + i) (by omega)
        simp only [numFn] at h1
        rw [mpT_at f W1.arcs (by omega)] at h1
        exact h1
      have a0 := hcell 0 (by omega)
      have a1 := hcell 1 (by omega)
      have a2 := hcell 2 (by omega)
      have a3 := hcell 3 (by omega)
      rw [Nat.add_zero] at a0
      have i1 : (0 : Int) ≤ (c : Int) := by omega
      have i2 : (c : Int) < (n : Int) := by omega
      obtain ⟨b0, HB0⟩ : ∃ z, Hid (z = W1.arcs.getD (c * 4) 0) := ⟨_, Lib.hid rfl⟩
      obtain ⟨b1, HB1⟩ : ∃ z, Hid (z = W1.arcs.getD (c * 4 + 1) 0) := ⟨_, Lib.hid rfl⟩
      obtain ⟨b2, HB2⟩ : ∃ z, Hid (z = W1.arcs.getD (c * 4 + 2) 0) := ⟨_, Lib.hid rfl⟩
      obtain ⟨b3, HB3⟩ : ∃ z, Hid (z = W1.arcs.getD (c * 4 + 3) 0) := ⟨_, Lib.hid rfl⟩
      rw [← HB0.out] at a0
      rw [← HB1.out] at a1
      rw [← HB2.out] at a2
      rw [← HB3.out] at a3
      clear hcell
      go_wp2_with fail
      clear z0 z1 z2 z3 a0 a1 a2 a3
      obtain ⟨wo, rfl⟩ : ∃ wo, wo = wr := ⟨_, rfl⟩
      go_loopw [33] (fun iv wr => ∃ i : Nat, i ≤ 4 ∧ iv = .int .i64 i ∧ Hid (WkAt B0 wr wb b mt nn mp np ab ib n v t ⟨mpT f W1.arcs (c * 4 + i), W1.inn⟩) ∧ Hid (Fr (fun k => k = ab ∨ k = ib) w wr)) (fun iv _ => 4 - (intOf iv).toNat)
      case atStart => exact ⟨0, by omega, rfl, HW, HFr⟩
      case round =>
        obtain ⟨i, hi4, rfl, HWi, HFi⟩ := hrel
        by_cases hlt4 : i < 4
        · obtain ⟨z0, z1, z2, z3⟩ := four_c HWi.out.blk
          obtain ⟨x, HX⟩ : ∃ z, Hid (z = W1.arcs.getD (c * 4 + i) 0) := ⟨_, Lib.hid rfl⟩
          have hix := fun W => ix68 b0 b1 b2 b3 i hlt4 W
          have hx : (if i = 0 then (b0 : Int) else if i = 1 then (b1 : Int) else if i = 2 then (b2 : Int) else (b3 : Int)) = (x : Nat) := by
            have h4 : i = 0 ∨ i = 1 ∨ i = 2 ∨ i = 3 := by omega
            rcases h4 with rfl | rfl | rfl | rfl
            · rw [if_pos rfl, HX.out, HB0.out]; rfl
            · rw [if_neg (by decide), if_pos rfl, HX.out, HB1.out]
            · rw [if_neg (by decide), if_neg (by decide), if_pos rfl, HX.out, HB2.out]
            · rw [if_neg (by decide), if_neg (by decide), if_neg (by decide), HX.out, HB3.out]
          simp only [hx] at hix
          have hkl : c * 4 + i < W1.arcs.length := by rw [HLA.out]; omega
          have j1 : (0 : Int) ≤ (i : Int) := by omega
          have j2 : (i : Int) < 4 := by omega
          have hcl := HWi.out.arcs.cell (i := c * 4 + i) (by omega)
          have hfz := HWi.out.arcs.frozen (c * 4 + i)
          simp only [numFn] at hcl
          rw [mpT_at f W1.arcs (Nat.le_refl _), ← HX.out] at hcl
          clear hx
          by_cases hxe : x = e
          · have HWn : Hid (WkAt B0 (wr.setCell ⟨ab, c * 4 + i, none⟩ (.int .i64 (arc0 : Nat))) wb b mt nn mp np ab ib n v t ⟨mpT f W1.arcs (c * 4 + (i + 1)), W1.inn⟩) := Lib.hid (by
              have h1 := HWi.out.setA HV.out (k := c * 4 + i) (by omega) arc0
              have h2 := mpT_succ f hkl
              rw [← HX.out, HF.out] at h2
              simp only [if_pos hxe] at h2
              rw [← HF.out] at h2
              rw [show c * 4 + (i + 1) = c * 4 + i + 1 by omega, ← h2]
              exact h1)
            have HFn := Lib.hid (HFi.out.setCell (a := ⟨ab, c * 4 + i, none⟩) (.inl (.inl rfl)) (.int .i64 (arc0 : Nat)))
            subst hxe
            go_wp2
            go_roundw
            case rel => exact ⟨i + 1, by omega, by go_num, HWn, HFn⟩
            case measure => simp [intOf]; omega
          · have hne : ¬ (x : Int) = (e : Int) := by omega
            have HWn : Hid (WkAt B0 wr wb b mt nn mp np ab ib n v t ⟨mpT f W1.arcs (c * 4 + (i + 1)), W1.inn⟩) := Lib.hid (by
              have h2 := mpT_same f hkl (by rw [← HX.out, HF.out]; simp only [if_neg hxe])
              rw [show c * 4 + (i + 1) = c * 4 + i + 1 by omega, h2]
              exact HWi.out)
            go_wp2
            go_roundw
            case rel => exact ⟨i + 1, by omega, by go_num, HWn, HFi⟩
            case measure => simp [intOf]; omega
        · obtain rfl : 4 = i := by omega
          go_wp2
          go_roundw
          case rel => exact ⟨c + 1, by omega, by go_num, Lib.hid (by rw [show (c + 1) * 4 = c * 4 + 4 by omega]; exact HWi.out), HFi⟩
          case measure => simp [intOf]; omega
    · obtain rfl : n = c := by omega
      go_wp2
      go_ret
      refine ⟨rfl, ?_, he', HFr.out⟩
      have h1 := HW.out
      rw [show n * 4 = W1.arcs.length by rw [HLA.out]; omega, mpT_all, HF.out] at h1
      exact h1
end Go.Proofs.Ytcfpdeeipbekfaa
