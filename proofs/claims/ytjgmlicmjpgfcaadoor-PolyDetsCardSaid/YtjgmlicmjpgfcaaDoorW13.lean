/- Walks: Determinant, of three rows. -/
import Derived.Test.YtjgmlicmjpgfcaaDoorW12
namespace Go.Proofs.YtjgmlicmjpgfcaaDoor
open Go.RowKit Go.Maps
theorem wpList_insert_own {H : Type} {P : Program} (w : World) {ops : Array Oper} {rest : List Oper} {o : Oper} {a : Act} {Q : Exit → Act → World → Prop}
    (hg : o.guard = none) (m x v : Operand) (t : TypeId) (hop : o.op = Op.insert t m x v)
    (k e : TypeId) (K : Keyed P k) (ht : P.underlying t = some (.map k e)) (R : Value → Option (DataW H × List MemPlace)) (b n : Nat) (D : DataW H)
    (hm : a.eval m = .map (some b)) (hown : w.ownsMap P k R b n D) (hn : n < maxLen) (key val : Value) (kl : Lit) (hx : a.eval x = key) (hv : a.eval v = val) (hkey : keyOf P k key = some kl)
    (d : DataW H) (ps : List MemPlace) (hval : R val = some (d, ps))
    (hK : ∀ w', w'.ownsMap P k R b (n + 1) (D.put kl d) → w.grownBy w' (some b) → wpList P ops Q rest (a.put o.dst undef) w') :
    wpList P ops Q (o :: rest) a w := by
  refine wpList_plain hg fun K' hK' => ?_
  obtain ⟨w', hrun, r1, r2⟩ := hown.update K ht hn hkey hval
  unfold Oper.wp
  simp [execOp, hop, hm, hx, hv, hrun, Result.andThen]
  exact hK' _ _ (hK w' r1 r2)
theorem info45 : (Tryd.prog.info? 45).map (fun i => (i.zero, i.size, i.bytes)) = some (some (.map none), 1, 8) := by kernel_rfl
theorem mk8 (w : World) : (Instr.makeSlice 53 (.int .i64 8) (.int .i64 8)).run Tryd.prog w = .ok (.slice (some ⟨w.heap.size, 0, none⟩) 8 8) (w.alloc (.cells (madeCells #[.map none] 8) 45)) :=
  run_make_row' 53 45 (.map none) 8 Tryd.underlying53 info45 rfl .i64 .i64 8 (by decide) (by decide) w
/- numbers of bits -/
theorem and_bits {q : Nat} (hs : q < 8) : bits BinOp.and IntKind.i64 (q : Int) 1 = ((q % 2 : Nat) : Int) := by
  rcases Pl.bits8 hs with rfl | rfl | rfl | rfl | rfl | rfl | rfl | rfl <;> (show _ = _; kernel_rfl)
theorem shr_div (s k : Nat) : (s : Int) / 2 ^ k = ((s >>> k : Nat) : Int) := by
  rw [Nat.shiftRight_eq_div_pow, Int.natCast_ediv, Int.natCast_pow]; rfl
theorem bit_is {s k : Nat} : s >>> k % 2 = if s.testBit k then 1 else 0 := by
  rw [Nat.testBit, Nat.one_and_eq_mod_two]
  rcases Nat.mod_two_eq_zero_or_one (s >>> k) with h | h <;> simp [h]
theorem shr_lt {s : Nat} (hs : s < 8) (k : Nat) : s >>> k < 8 := Nat.lt_of_le_of_lt (Nat.shiftRight_le s k) hs

theorem out_no {m : Pl.Tab} {t : Nat → List Pl.T} {s k : Nat} (h : ¬ s.testBit k = true) : Pl.outF m t s (k + 1) = Pl.outF m t s k := by
  simp [Pl.outF, Pl.term, h]
theorem nout_no {c : Nat} {t : Nat → Nat} {s k : Nat} (h : ¬ s.testBit k = true) : Pl.nout c t s (k + 1) = Pl.nout c t s k := by
  simp [Pl.nout, Pl.nt, h]
theorem out_yes {m : Pl.Tab} {t : Nat → List Pl.T} {s k : Nat} (h : s.testBit k = true) : Pl.outF m t s (k + 1) = Pl.outF m t s k ++ Pl.sc (Pl.sg (Pl.pop (s >>> (k + 1)))) (Pl.mul (Pl.ent m (Pl.pop s - 1) k) (t (s - 2 ^ k))) := by
  simp [Pl.outF, Pl.term, h]
theorem nout_yes {c : Nat} {t : Nat → Nat} {s k : Nat} (h : s.testBit k = true) : Pl.nout c t s (k + 1) = Pl.nout c t s k + c * t (s - 2 ^ k) := by
  simp [Pl.nout, Pl.nt, h]
theorem pop_le (q : Nat) : Pl.pop q ≤ 3 := by
  unfold Pl.pop
  exact Nat.le_trans List.countP_le_length (by simp)
theorem pow_wrap {k : Nat} (hk : k < 3) : wrap64 ((2 : Int) ^ k) = ((2 ^ k : Nat) : Int) := by
  have hk' : k = 0 ∨ k = 1 ∨ k = 2 := by omega
  rcases hk' with rfl | rfl | rfl <;> (show _ = _; kernel_rfl)
theorem andNot_bits {s k : Nat} (hs : s < 8) (hk : k < 3) (hb : s.testBit k = true) : bits BinOp.andNot IntKind.i64 (s : Int) ((2 ^ k : Nat) : Int) = ((s - 2 ^ k : Nat) : Int) := by
  have hk' : k = 0 ∨ k = 1 ∨ k = 2 := by omega
  rcases Pl.bits8 hs with rfl | rfl | rfl | rfl | rfl | rfl | rfl | rfl <;> rcases hk' with rfl | rfl | rfl <;> first | (exact absurd hb (by decide)) | (show _ = _; kernel_rfl)
theorem Wk.set {w : World} {v : Value} {l : List Pl.T} {n S t m : Nat} {f : Nat → Value} (h : Wk w v l n) (hS : w.rowIs S t m f) (j : Nat) (x : Value) : Wk (w.setCell ⟨S, j, none⟩ x) v l n := by
  obtain ⟨b, D, rfl, ho, hr⟩ := h
  refine ⟨b, D, rfl, ?_, hr⟩
  obtain ⟨es, clock, hb, r⟩ := ho
  obtain ⟨c, hc, _⟩ := hS
  have hne : b ≠ S := by
    rintro rfl
    rw [hb] at hc
    cases hc
  exact ⟨es, clock, (Below.heap_setCell _ _ _ _ hne).trans hb, r⟩

def Good (m : Pl.Tab) : Prop := Pl.Within m 48 8 ∧ m.length = 3 ∧ ∀ i, i < 3 → (m.getD i []).length = 3

theorem Exps.mono {N M : Int} {l : List Pl.T} (h : Exps N l) (hm : N ≤ M) : Exps M l := fun t ht => by have := h t ht; omega
theorem det_bd {m : Pl.Tab} (hg : Good m) {s : Nat} (hs : s < 8) (p k : Nat) : Exps 100 (Pl.ent m p k) ∧ Exps 100 (Pl.tb m s) ∧ Pl.size (Pl.ent m p k) ≤ 48 ∧ Pl.size (Pl.tb m s) ≤ 663552 ∧ Pl.nb 17 s ≤ 29478 := by
  refine ⟨fun t ht => ?_, fun t ht => ?_, (hg.1 p k).1, Nat.le_trans (Pl.tb_size hg.1 8 s hs hs) (Pl.nb_le hs).1, (Pl.nb_le hs).2.1⟩
  · have := (hg.1 p k).2 t ht; omega
  · have := Pl.tb_exps hg.1 (by omega) s t ht; omega
theorem mul_exps8 {a b : List Pl.T} (ha : Exps 100 a) (hb : Exps 100 b) : Exps 1000000000 (Pl.mul a b) := by
  intro t ht
  simp only [Pl.mul, List.mem_flatMap, List.mem_map] at ht
  obtain ⟨x, hx, y, hy, rfl⟩ := ht
  have h1 := ha x hx
  have h2 := hb y hy
  show -1000000000 ≤ x.1 + y.1 ∧ x.1 + y.1 ≤ 1000000000
  omega
theorem sc_exps8 {z : Int} {l : List Pl.T} {N : Int} (h : Exps N l) : Exps N (Pl.sc z l) := by
  intro t ht
  obtain ⟨u, hu, rfl⟩ := List.mem_map.1 ht
  exact h u hu

set_option maxRecDepth 100000 in
set_option maxHeartbeats 2000000 in
theorem det3_any (v : Value) (m : Pl.Tab) (w : World) (hm : TabW 17 w v m) (hg : Good m) : Calls Tryd.prog 26 #[v] w (GaveW (Pl.tb m 7) (Pl.nb 17 7) w) := by
  obtain ⟨vs, ⟨a, c, rfl, hcl⟩, hel⟩ := hm
  have hlen : vs.length = 3 := by rw [hel.len, hg.2.1]
  rw [hlen]
  have HL := Lib.hid hlen
  have HCL : Hid (CellsAt w a vs) := Lib.hid hcl
  have HEL := Lib.hid hel
  have HG := Lib.hid hg
  clear hlen hcl hel hg
  have hmm := @run_makeMap Tryd.prog
  obtain ⟨X, HX⟩ : ∃ X, Hid (X = Obj.cells (madeCells #[.map none] 8) 45) := ⟨_, Lib.hid rfl⟩
  have hmk := mk8
  rw [← HX.out] at hmk
  obtain ⟨S, HS⟩ : ∃ S, Hid (S = w.heap.size) := ⟨_, Lib.hid rfl⟩
  obtain ⟨w1, HW1⟩ : ∃ w1, Hid (w1 = (w.alloc X).alloc (.map #[] 0)) := ⟨_, Lib.hid rfl⟩
  have e0 : (w.alloc X).heap.size = w.heap.size + 1 := by simp
  have HO : Hid (OM w1 (w.heap.size + 1) 0 (.map [])) := Lib.hid (by rw [HW1.out]; have := World.ownsMap_made (H := Unit) (w.alloc X) Tryd.prog 3 (plainElem Tryd.prog 3); rwa [e0] at this)
  have HR1 : Hid (w1.rowIs S 45 8 fun _ => .map none) := Lib.hid (by rw [HW1.out, HX.out, HS.out]; exact (World.rowIs_made w (.map none) 8 45).alloc _)
  have HN1 : Hid (New w w1) := Lib.hid (by rw [HW1.out]; exact ((Fr.refl _ _).alloc _).alloc _)
  clear e0
  go_enter Tryd.func26, Tryd.ntmps26
  go_wp2_with (first
    | (rw [← HW1.out]; refine wpList_insert_own _ rfl _ _ _ 45 rfl 3 3 law3 ul45 _ _ 0 _ rfl HO.out (by unfold maxLen; omega) _ _ _ rfl rfl (Maps.keyOf_int_mk Tryd.underlying3 (wf64 (by omega))) _ [] (plainElem_int Tryd.underlying3 (wf64 (by omega))) ?_; intro w3 hown2 hg2; rw [← HS.out]; have HO2 := Lib.hid hown2; have HN2 : Hid (New w w3) := (Lib.hid (HN1.out.grown hg2 fun k ek => .inr (by cases ek; omega))); have HR2 : Hid (w3.rowIs S 45 8 fun _ => .map none) := (Lib.hid (HR1.out.of_block (hg2.block _ HR1.out.lt (by rw [HS.out]; simp)))); have f0 := HR2.out.frozen 0; have c0 := HR2.out.cell (i := 0) (by omega); clear hown2 hg2)
    | go_in)
  clear f0
  go_loopw [5] (fun t wr => ∃ (s : Nat) (f : Nat → Value), 1 ≤ s ∧ s ≤ 8 ∧ t = .int .i64 s ∧ Hid (wr.rowIs S 45 8 f) ∧ Hid (∀ i, i < s → Wk wr (f i) (Pl.tb m i) (Pl.nb 17 i)) ∧ Hid (New w wr)) (fun t _ => 8 - (intOf t).toNat)
  case atStart => exact ⟨1, _, by omega, by omega, rfl, Lib.hid (HR2.out.set 0 _), Lib.hid fun i hi => by
    obtain rfl : i = 0 := by omega
    exact Wk.set (l := [(0, 1)]) ⟨_, _, rfl, by rw [HS.out]; exact HO2.out, RD.put (c := 1) RD.empty rfl⟩ HR2.out 0 _, Lib.hid (HN2.out.setCell (.inr (by show w.heap.size ≤ S; rw [HS.out]; exact Nat.le_refl _)) _)⟩
  case round =>
    obtain ⟨s, f, hs1, hs8, rfl, HRS, HT, HF⟩ := hrel
    obtain ⟨wo, rfl⟩ : ∃ wo : World, wo = wr := ⟨_, rfl⟩
    by_cases hlt : s < 8
    · have hp := Pl.pop_pos hlt (by omega)
      have ho := fun W => ones_any s W hlt
      obtain ⟨p, hpp⟩ : ∃ p, Pl.pop s = p + 1 := ⟨Pl.pop s - 1, by omega⟩
      have HP := Lib.hid hpp
      have ho' : ∀ W, Calls Tryd.prog 35 #[.int .u64 s] W fun e w' => e = .returned (.int .i64 ((p : Int) + 1)) ∧ W = w' := fun W => by have := ho W; rw [hpp] at this; simpa using this
      have hp3 : p < 3 := by omega
      have HOn := Lib.hid ho'
      have hkv : p < vs.length := by rw [HL.out]; exact hp3
      obtain ⟨b, o, rfl, d1⟩ := (New.cells HF.out HCL.out).at hkv
      obtain ⟨xs, ⟨a1, c1, er, hc1⟩, hel1⟩ := HEL.out.at_ p (by rw [HG.out.2.1]; exact hp3)
      have hxl : xs.length = 3 := by
        rw [hel1.len]
        exact HG.out.2.2 p hp3
      rw [er, hxl] at d1
      have HXL := Lib.hid hxl
      have HC1 : Hid (CellsAt w a1 xs) := Lib.hid hc1
      have HE1 : Hid (Els (fun v l => Wk w v l 17) xs (m.getD p [])) := Lib.hid hel1
      clear hp hpp ho ho' er hxl hc1 hel1 hkv
      have i1 : (0 : Int) ≤ (p : Int) := by omega
      have i2 : (p : Int) < 3 := by omega
      go_wp2_with fail
      refine (HOn.out _).mono ?_
      rintro e w' ⟨rfl, rfl⟩
      go_wp2
      obtain ⟨B, HB⟩ : ∃ B, Hid (B = wo.heap.size) := ⟨_, Lib.hid rfl⟩
      obtain ⟨wm, HWM⟩ : ∃ wm, Hid (wm = wo.alloc (.map #[] 0)) := ⟨_, Lib.hid rfl⟩
      rw [← HWM.out, ← HB.out]
      have HNm : Hid (New wo wm) := Lib.hid (by rw [HWM.out]; exact (Fr.refl _ _).alloc _)
      have HB0 : Hid (OM wm B 0 (.map [])) := Lib.hid (by rw [HWM.out, HB.out]; exact World.ownsMap_made _ _ _ _)
      go_loopw [7, 36] (fun out i wi => ∃ k : Nat, k ≤ 3 ∧ i = .int .i64 k ∧ Hid (Wk wi out (Pl.outF m (Pl.tb m) s k) (Pl.nout 17 (Pl.nb 17) s k)) ∧ Hid (New wo wi)) (fun _ i _ => 3 - (intOf i).toNat)
      case atStart => exact ⟨0, by omega, rfl, Lib.hid ⟨_, _, rfl, HB0.out, RD.empty⟩, HNm⟩
      case round =>
        obtain ⟨k, hk, rfl, HWk, HFi⟩ := hrel
        by_cases hk3 : k < 3
        · obtain ⟨b2, o2, rfl, d2⟩ := (New.cells (HF.out.trans HFi.out) HC1.out).at (k := k) (by rw [HXL.out]; exact hk3)
          have hx := HE1.out.at_ k (by rw [HG.out.2.2 p hp3]; exact hk3)
          obtain ⟨x, HX⟩ : ∃ x, Hid (x = xs.getD k undef) := ⟨_, Lib.hid rfl⟩
          rw [← HX.out] at d2 hx
          have HXW := Lib.hid hx
          clear hx
          obtain ⟨q1, HQ1⟩ : ∃ q : Nat, Hid (q = s >>> k) := ⟨_, Lib.hid rfl⟩
          have h1 : (s : Int) / 2 ^ k = (q1 : Int) := by rw [HQ1.out]; exact shr_div s k
          have hq8 : q1 < 8 := by rw [HQ1.out]; exact shr_lt hlt k
          have h2 := and_bits hq8
          have hbit : q1 % 2 = if s.testBit k then 1 else 0 := by rw [HQ1.out]; exact bit_is
          obtain ⟨q2, HQ2⟩ : ∃ q : Nat, Hid (q = s >>> (k + 1)) := ⟨_, Lib.hid rfl⟩
          have h3 : (s : Int) / 2 ^ (k + 1) = (q2 : Int) := by rw [HQ2.out]; exact shr_div s (k + 1)
          have hq28 : q2 < 8 := by rw [HQ2.out]; exact shr_lt hlt (k + 1)
          by_cases hb : s.testBit k = true
          · rw [hbit, if_pos hb] at h2
            clear hbit
            have h2' : bits BinOp.and IntKind.i64 (q1 : Int) 1 = 1 := h2
            clear h2
            have ho2 := fun W => ones_any q2 W hq28
            obtain ⟨bb, HBB⟩ : ∃ bb, Hid (bb = Pl.pop q2) := ⟨_, Lib.hid rfl⟩
            rw [← HBB.out] at ho2
            have hbb : bb ≤ 3 := by rw [HBB.out]; exact pop_le _
            have HO3 := Lib.hid ho2
            clear ho2
            go_wp2_with fail
            refine (HO3.out _).mono ?_
            rintro e w' ⟨rfl, rfl⟩
            clear h1 h3 h2'
            have hles := Pl.pop_less hlt hk3 hb
            obtain ⟨z, HZ⟩ : ∃ z : Nat, Hid (z = 2 ^ k) := ⟨_, Lib.hid rfl⟩
            obtain ⟨s', HS'⟩ : ∃ s' : Nat, Hid (s' = s - 2 ^ k) := ⟨_, Lib.hid rfl⟩
            have g1 := pow_wrap hk3
            have g2 := andNot_bits hlt hk3 hb
            rw [← HZ.out] at g1 g2
            rw [HZ.out, ← HS'.out, ← HZ.out] at g2
            have hlt' : s' < s := by rw [HS'.out]; exact hles.2
            have g3 : (0 : Int) ≤ (s' : Int) := by omega
            have g4 : (s' : Int) < 8 := by omega
            have HLES := Lib.hid hles
            clear hles
            have dS := (HRS.out.of_block (HFi.out.block S HRS.out.lt fun x => x)).cell (i := s') (by omega)
            obtain ⟨y, HY⟩ : ∃ y, Hid (y = f s') := ⟨_, Lib.hid rfl⟩
            rw [← HY.out] at dS
            have HWy : Hid (Wk wr y (Pl.tb m s') (Pl.nb 17 s')) := Lib.hid (by rw [HY.out]; exact New.wk HFi.out (HT.out s' hlt'))
            have HWx : Hid (Wk wr x (Pl.ent m p k) 17) := Lib.hid (New.wk (HF.out.trans HFi.out) HXW.out)
            have HTE : Hid (Exps 100 (Pl.ent m p k) ∧ Exps 100 (Pl.tb m s') ∧ Pl.size (Pl.ent m p k) ≤ 48 ∧ Pl.size (Pl.tb m s') ≤ 663552 ∧ Pl.nb 17 s' ≤ 29478) := Lib.hid (det_bd HG.out (by omega) p k)
            obtain ⟨lx, HLX⟩ : ∃ lx, Hid (lx = Pl.ent m p k) := ⟨_, Lib.hid rfl⟩
            obtain ⟨ly, HLY⟩ : ∃ ly, Hid (ly = Pl.tb m s') := ⟨_, Lib.hid rfl⟩
            obtain ⟨ny, HNY⟩ : ∃ ny, Hid (ny = Pl.nb 17 s') := ⟨_, Lib.hid rfl⟩
            rw [← HLX.out, ← HLY.out, ← HNY.out] at HTE
            rw [← HLX.out] at HWx
            rw [← HLY.out, ← HNY.out] at HWy

            go_wp2_with fail
            refine (timesW_any x y lx ly 17 ny _ HWx.out HWy.out (by have := HTE.out.2.2.2.2; omega) (HTE.out.1.mono (by omega)) (HTE.out.2.1.mono (by omega)) (by have := Nat.mul_le_mul HTE.out.2.2.1 HTE.out.2.2.2.1; omega)).mono ?_
            rintro e wa ⟨u, rfl, hu, hn1⟩
            have HU := Lib.hid hu
            have HA := Lib.hid hn1
            clear hu hn1
            go_wp2_with fail
            refine (shift_any u _ _ _ _ HU.out (by omega) (by have := HTE.out.2.2.2.2; omega) (mul_exps8 HTE.out.1 HTE.out.2.1) (by rw [Pl.size_mul]; have := Nat.mul_le_mul HTE.out.2.2.1 HTE.out.2.2.2.1; omega)).mono ?_
            rintro e wb ⟨u2, rfl, hu, hn1⟩
            have HU2 : Hid (Wk wb u2 (Pl.sc (Pl.sg bb) (Pl.mul lx ly)) (17 * ny)) := Lib.hid hu
            have HB2 : Hid (New wr wb) := Lib.hid (HA.out.trans hn1)
            clear hu hn1
            obtain ⟨out, HOUT⟩ : ∃ o, Hid (o = u7) := ⟨_, Lib.hid rfl⟩
            have hcnt : Hid (Pl.nout 17 (Pl.nb 17) s k + 17 * ny ≤ 29478) := Lib.hid (by
              have h1 := nout_yes (c := 17) (t := Pl.nb 17) hb
              have h2 := Pl.nout_le 17 (Pl.nb 17) s (k := k + 1) (by omega)
              have h3 := Pl.nb_eq 17 hlt (by omega)
              have h4 := (Pl.nb_le hlt).2.1
              rw [HNY.out, HS'.out]
              omega)
            have hsz : Hid (Pl.size (Pl.outF m (Pl.tb m) s k) + Pl.size (Pl.sc (Pl.sg bb) (Pl.mul lx ly)) ≤ 1000000000000000000) := Lib.hid (by
              have h1 := Pl.out_size HG.out.1 hlt (k := k) hk
              have h2 := Pl.nout_le 48 (Pl.nb 48) s hk
              have h3 := Pl.nb_eq 48 hlt (by omega)
              have h4 := (Pl.nb_le hlt).1
              rw [Pl.sc_size (Pl.sg_one bb), Pl.size_mul]
              have h5 := Nat.mul_le_mul HTE.out.2.2.1 HTE.out.2.2.2.1
              omega)
            go_wp2_with fail
            refine (plusW_any _ _ _ _ _ _ _ (New.wk HB2.out HWk.out) HU2.out (by have := hcnt.out; omega) (sc_exps8 (mul_exps8 HTE.out.1 HTE.out.2.1)) hsz.out).mono ?_
            rintro e wc ⟨u3, rfl, hu, hn1⟩
            have HU3 : Hid (Wk wc u3 (Pl.outF m (Pl.tb m) s (k + 1)) (Pl.nout 17 (Pl.nb 17) s (k + 1))) := Lib.hid (by
              rw [out_yes hb, nout_yes hb, HP.out, ← HS'.out, ← HQ2.out, ← HBB.out, Nat.add_sub_cancel, ← HLX.out, ← HLY.out, ← HNY.out]
              exact hu)
            have HC3 : Hid (New wo wc) := Lib.hid (HFi.out.trans (HB2.out.trans hn1))
            clear hu hn1
            go_wp2
            go_roundw
            case rel => exact ⟨k + 1, by omega, by go_num, HU3, HC3⟩
            case measure => simp [intOf]; omega
          · rw [hbit, if_neg hb] at h2
            clear hbit
            have h2' : bits BinOp.and IntKind.i64 (q1 : Int) 1 = 0 := h2
            clear h2
            go_wp2
            go_roundw
            case rel => exact ⟨k + 1, by omega, by go_num, Lib.hid (by rw [out_no hb, nout_no hb]; exact HWk.out), HFi⟩
            case measure => simp [intOf]; omega
        · obtain rfl : k = 3 := by omega
          have dS := (HRS.out.of_block (HFi.out.block S HRS.out.lt fun x => x))
          have HDS := Lib.hid dS
          have hc := dS.cell (i := s) (by omega)
          have hf := dS.frozen s
          have g3 : (0 : Int) ≤ (s : Int) := by omega
          have g4 : (s : Int) < 8 := by omega
          clear dS
          obtain ⟨b9, D9, rfl, ho9, hr9⟩ := HWk.out
          have HW9 : Hid (Wk wr (.map (some b9)) (Pl.tb m s) (Pl.nb 17 s)) := Lib.hid ⟨b9, D9, rfl, by rw [Pl.nb_eq 17 hlt (by omega)]; exact ho9, by rw [Pl.tb_eq m hlt (by omega)]; exact hr9⟩
          clear ho9 hr9
          go_wp2
          go_roundw
          case rel => exact ⟨s + 1, _, by omega, by omega, by go_num, Lib.hid (HDS.out.set s _), Lib.hid fun i hi => by
            by_cases c : i = s
            · subst c
              rw [if_pos rfl]
              exact Wk.set HW9.out HDS.out _ _
            · rw [if_neg c]
              exact Wk.set (New.wk HFi.out (HT.out i (by omega))) HDS.out _ _, Lib.hid ((HF.out.trans HFi.out).setCell (.inr (by show w.heap.size ≤ S; rw [HS.out]; exact Nat.le_refl _)) _)⟩
          case measure => simp [intOf]; omega
    · obtain rfl : s = 8 := by omega
      have d7 := HRS.out.cell (i := 7) (by omega)
      have hw7 := HT.out 7 (by omega)
      obtain ⟨y, HY⟩ : ∃ y, Hid (y = f 7) := ⟨_, Lib.hid rfl⟩
      rw [← HY.out] at d7 hw7
      have HW7 := Lib.hid hw7
      clear hw7
      go_wp2
      go_ret
      exact ⟨y, rfl, HW7.out, HF.out⟩
end Go.Proofs.YtjgmlicmjpgfcaaDoor
