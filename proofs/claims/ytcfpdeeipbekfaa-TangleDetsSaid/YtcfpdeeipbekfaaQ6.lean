/- Walks: Determinant, of any few rows. -/
import Derived.Test.YtcfpdeeipbekfaaQ5
import Derived.Test.YtcfpdeeipbekfaaMAlld
namespace Go.Proofs.Ytcfpdeeipbekfaa
open Go.RowKit Go.Maps

theorem shr_div (s k : Nat) : (s : Int) / 2 ^ k = ((s >>> k : Nat) : Int) := by
  rw [Nat.shiftRight_eq_div_pow, Int.natCast_ediv, Int.natCast_pow]; rfl
theorem bit_is {s k : Nat} : s >>> k % 2 = if s.testBit k then 1 else 0 := by
  rw [Nat.testBit, Nat.one_and_eq_mod_two]
  rcases Nat.mod_two_eq_zero_or_one (s >>> k) with h | h <;> simp [h]
theorem Wk.set {w : World} {v : Value} {l : List Pl.T} {n S t m : Nat} {f : Nat → Value} (h : Wk w v l n) (hS : w.rowIs S t m f) (j : Nat) (x : Value) : Wk (w.setCell ⟨S, j, none⟩ x) v l n := by
  obtain ⟨b, D, rfl, ho, hr⟩ := h
  refine ⟨b, D, rfl, ?_, hr⟩
  obtain ⟨es, clock, hb, r⟩ := ho
  obtain ⟨c, hc, _⟩ := hS
  have hne : b ≠ S := by
    rintro rfl
    rw [hb] at hc
    cases hc
  exact ⟨es, clock, (Below.heap_setCell _ _ _ _ hne).trans hb, r⟩

theorem info64 : (Try.prog.info? 101).map (fun i => (i.zero, i.size, i.bytes)) = some (some (.map none), 1, 8) := by kernel_rfl
theorem make73q (m : Nat) (hm : m ≤ 10000) (w : World) : (Instr.makeSlice 99 (.int .i64 (m : Int)) (.int .i64 (m : Int))).run Try.prog w = .ok (.slice (some ⟨w.heap.size, 0, none⟩) m m) (w.alloc (.cells (madeCells #[.map none] m) 101)) :=
  run_make_row' 99 101 (.map none) 8 Try.underlying99 info64 rfl .i64 .i64 m (by omega) (by omega) w
theorem andNot_all : ((List.range 1024).all fun s => (List.range 10).all fun k => !s.testBit k || decide (bits BinOp.andNot IntKind.i64 ((s : Nat) : Int) ((2 ^ k : Nat) : Int) = ((s - 2 ^ k : Nat) : Int))) = true := by decide +kernel
theorem andNot_g {s k : Nat} (hs : s < 1024) (hk : k < 10) (hb : s.testBit k = true) : bits BinOp.andNot IntKind.i64 (s : Int) ((2 ^ k : Nat) : Int) = ((s - 2 ^ k : Nat) : Int) := by
  have h := List.all_eq_true.1 (List.all_eq_true.1 andNot_all s (List.mem_range.2 hs)) k (List.mem_range.2 hk)
  rw [hb] at h
  simpa using h
theorem and_g {q : Nat} (hq : q < 4096) : bits BinOp.and IntKind.i64 (q : Int) 1 = ((q % 2 : Nat) : Int) := of_decide_eq_true (List.all_eq_true.1 and_all q (List.mem_range.2 hq))
theorem dout_no {m : Pl.Tab} {t : Nat → List Pl.T} {s k : Nat} (h : ¬ s.testBit k = true) : Pl.dout m t s (k + 1) = Pl.dout m t s k := by
  simp [Pl.dout, Pl.dterm, h]
theorem dout_yes {m : Pl.Tab} {t : Nat → List Pl.T} {s k : Nat} (h : s.testBit k = true) : Pl.dout m t s (k + 1) = Pl.dout m t s k ++ Pl.sc (Pl.sg (Pl.pp (s >>> (k + 1)))) (Pl.mul (Pl.ent m (Pl.pp s - 1) k) (t (s - 2 ^ k))) := by
  simp [Pl.dout, Pl.dterm, h]
/- the table's bounds -/
structure DtB (tab : Pl.Tab) (n S E : Nat) : Prop where
  n10 : n ≤ 10
  s1 : 1 ≤ S
  row : ∀ i, i < n → Pl.rsz tab i n ≤ S
  sn : S ^ n ≤ 100000000000000
  ex : ∀ i k, Pl.ExpsW (E : Nat) (Pl.ent tab i k)
  en : n * E ≤ 300
section
variable {tab : Pl.Tab} {n S E : Nat}
theorem DtB.pop (h : DtB tab n S E) {s : Nat} (hs : s < 2 ^ n) (h0 : s ≠ 0) : ∃ p, Pl.pp s = p + 1 ∧ p < n := by
  have h1 : Kn.pop 12 s = Kn.pop n s := Pl.pop_up hs (by have := h.n10; omega)
  have h2 := Pl.pop_pos' hs h0
  rw [← h1] at h2
  have h3 := Pl.pop_le' n s
  refine ⟨Pl.pp s - 1, ?_, ?_⟩
  · show Kn.pop 12 s = Kn.pop 12 s - 1 + 1; omega
  · show Kn.pop 12 s - 1 < n; omega
theorem DtB.exps (h : DtB tab n S E) {s : Nat} (hs : s < 2 ^ n) : Pl.ExpsW ((n * E : Nat) : Int) (Pl.dt tab n s) := by
  have := Pl.dt_exps (m := tab) (E := (E : Nat)) (by omega) (by have := h.n10; omega) h.ex (s + 1) s (by omega) hs
  refine this.mono ?_
  have h1 : Kn.pop 12 s = Kn.pop n s := Pl.pop_up hs (by have := h.n10; omega)
  have h3 := Pl.pop_le' n s
  have : Pl.pp s * E ≤ n * E := Nat.mul_le_mul_right _ (by show Kn.pop 12 s ≤ n; omega)
  rw [← Int.natCast_mul]
  omega
theorem DtB.pow (h : DtB tab n S E) {p : Nat} (hp : p ≤ n) : S ^ p ≤ 100000000000000 := Nat.le_trans (Nat.pow_le_pow_right h.s1 hp) h.sn
theorem DtB.size (h : DtB tab n S E) {s : Nat} (hs : s < 2 ^ n) : Pl.size (Pl.dt tab n s) ≤ S ^ Pl.pp s := Pl.dt_size (by have := h.n10; omega) h.row (s + 1) s (by omega) hs
theorem DtB.less (h : DtB tab n S E) {s k p : Nat} (hs : s < 2 ^ n) (hp : Pl.pp s = p + 1) (hb : s.testBit k = true) : s - 2 ^ k < s ∧ Pl.size (Pl.dt tab n (s - 2 ^ k)) ≤ S ^ p ∧ Pl.ExpsW ((p * E : Nat) : Int) (Pl.dt tab n (s - 2 ^ k)) := by
  have h1 := (Pl.bit_sub k s 0 hb).2
  have h2 := Nat.two_pow_pos k
  have h12 : s < 2 ^ 12 := Nat.lt_of_lt_of_le hs (Nat.pow_le_pow_right (by omega) (by have := h.n10; omega))
  have hk12 : k < 12 := by
    refine Classical.byContradiction fun c => ?_
    have := Nat.pow_le_pow_right (show 0 < 2 by omega) (show 12 ≤ k by omega)
    have := (Pl.bit_sub k s 0 hb).2
    omega
  have h3 : Pl.pp (s - 2 ^ k) = p := by
    have := Pl.pop_sub 12 k s hk12 hb
    have h4 : Kn.pop 12 s = p + 1 := hp
    show Kn.pop 12 (s - 2 ^ k) = p
    omega
  have h5 := h.size (s := s - 2 ^ k) (by omega)
  have h6 := Pl.dt_exps (m := tab) (n := n) (E := (E : Nat)) (by omega) (by have := h.n10; omega) h.ex (s - 2 ^ k + 1) (s - 2 ^ k) (by omega) (by omega)
  rw [h3] at h5 h6
  rw [← Int.natCast_mul] at h6
  exact ⟨by omega, h5, h6⟩
theorem DtB.out (h : DtB tab n S E) {s p : Nat} (hs : s < 2 ^ n) (hp : Pl.pp s = p + 1) (hpn : p < n) {k : Nat} (hk : k ≤ n) : Pl.size (Pl.dout tab (Pl.dt tab n) s k) ≤ 100000000000000 ∧ Pl.ExpsW ((n * E : Nat) : Int) (Pl.dout tab (Pl.dt tab n) s k) := by
  constructor
  · have h1 := Pl.dout_size (m := tab) (t := Pl.dt tab n) (s := s) (B := S ^ p) (fun k hb => (h.less hs hp hb).2.1) k
    rw [hp, Nat.add_sub_cancel] at h1
    have h2 : Pl.rsz tab p k * S ^ p ≤ S * S ^ p := Nat.mul_le_mul_right _ (Nat.le_trans (Pl.rsz_mono tab p hk) (h.row p hpn))
    have h3 := h.pow (p := p + 1) (by omega)
    rw [Nat.pow_succ, Nat.mul_comm] at h3
    omega
  · have h1 := Pl.dout_exps (m := tab) (t := Pl.dt tab n) (s := s) (E := (E : Nat)) (F := ((p * E : Nat) : Int)) h.ex (fun k hb => (h.less hs hp hb).2.2) k
    refine h1.mono ?_
    have : (p + 1) * E ≤ n * E := Nat.mul_le_mul_right _ (by omega)
    rw [Nat.add_mul, Nat.one_mul] at this
    omega
theorem DtB.term (h : DtB tab n S E) {s p : Nat} (hs : s < 2 ^ n) (hp : Pl.pp s = p + 1) (hpn : p < n) {k : Nat} (hk : k < n) (hb : s.testBit k = true) : Pl.size (Pl.ent tab p k) * Pl.size (Pl.dt tab n (s - 2 ^ k)) ≤ 100000000000000 ∧ Exps 1000 (Pl.ent tab p k) ∧ Exps 1000 (Pl.dt tab n (s - 2 ^ k)) ∧ Exps 1000 (Pl.mul (Pl.ent tab p k) (Pl.dt tab n (s - 2 ^ k))) := by
  obtain ⟨_, h1, h2⟩ := h.less hs hp hb
  have h3 : Pl.size (Pl.ent tab p k) ≤ S := by
    have := Pl.rsz_mono tab p (j := k + 1) (k := n) hk
    rw [Pl.rsz] at this
    have := h.row p hpn
    omega
  have h4 := h.pow (p := p + 1) (by omega)
  rw [Nat.pow_succ, Nat.mul_comm] at h4
  have h5 := h.en
  have h6 : E ≤ n * E := by
    have := Nat.mul_le_mul_right E (show 1 ≤ n by omega)
    rwa [Nat.one_mul] at this
  have h7 : p * E ≤ n * E := Nat.mul_le_mul_right _ (by omega)
  have e1 := h.ex p k
  refine ⟨Nat.le_trans (Nat.mul_le_mul h3 h1) h4, fun t ht => by have := e1 t ht; omega, fun t ht => by have := h2 t ht; omega, fun t ht => ?_⟩
  have := (e1.mul h2) t ht
  omega
end
theorem Exps.mono {N M : Int} {l : List Pl.T} (h : Exps N l) (hm : N ≤ M) : Exps M l := fun t ht => by have := h t ht; omega
theorem sh_sc (s : Int) (l : List Pl.T) : sh 0 s l = Pl.sc s l := by
  unfold sh Pl.sc
  exact List.map_congr_left fun t _ => by rw [Int.add_zero]
set_option maxRecDepth 100000 in
set_option maxHeartbeats 4000000 in
theorem det_any (v : Value) (tab : Pl.Tab) (n S E ne : Nat) (w : World) (hm : TabM w v n n (Pl.ent tab) ne) (hB : DtB tab n S E) (hne : ne * (2 * (n * E) + 1) ≤ 900000) :
    Calls Try.prog 35 #[v] w (GaveW (Pl.dt tab n (2 ^ n - 1)) (2 * (n * E) + 1) w) := by
  obtain ⟨a, c, rfl, hrow⟩ := id hm
  have hn10 : n ≤ 10 := hB.n10
  have HM := Lib.hid hm
  have HB := Lib.hid hB
  obtain ⟨M, HMM⟩ : ∃ M, Hid (M = 2 * (n * E) + 1) := ⟨_, Lib.hid rfl⟩
  rw [← HMM.out] at hne ⊢
  have hM6 : M ≤ 601 := by have := HMM.out; have := hB.en; omega
  have HNE := Lib.hid hne
  have hne' : ne ≤ 900000 := by
    have h1 : 1 ≤ M := by have := HMM.out; omega
    have := Nat.mul_le_mul_left ne h1
    omega
  clear hm hB hrow hne
  have hmm := @run_makeMap Try.prog
  obtain ⟨N, HNN⟩ : ∃ N, Hid (N = 2 ^ n) := ⟨_, Lib.hid rfl⟩
  have hN : N ≤ 1024 := by rw [HNN.out]; exact Nat.pow_le_pow_right (by decide) hn10
  have hN1 : 1 ≤ N := by rw [HNN.out]; exact Nat.two_pow_pos n
  have hs2 : wrap64 (2 ^ n) = (N : Int) := by rw [HNN.out]; exact of_decide_eq_true (List.all_eq_true.1 wrap_all n (List.mem_range.2 (by omega)))
  have hmk := make73q N (by omega)
  obtain ⟨X, HX⟩ : ∃ X, Hid (X = Obj.cells (madeCells #[.map none] N) 101) := ⟨_, Lib.hid rfl⟩
  rw [← HX.out] at hmk
  obtain ⟨Sb, HS⟩ : ∃ S, Hid (S = w.heap.size) := ⟨_, Lib.hid rfl⟩
  obtain ⟨w1, HW1⟩ : ∃ w1, Hid (w1 = (w.alloc X).alloc (.map #[] 0)) := ⟨_, Lib.hid rfl⟩
  have e0 : (w.alloc X).heap.size = w.heap.size + 1 := by simp
  have HO : Hid (OM w1 (w.heap.size + 1) 0 (.map [])) := Lib.hid (by rw [HW1.out]; have := World.ownsMap_made (H := Unit) (w.alloc X) Try.prog 3 (plainElem Try.prog 3); rwa [e0] at this)
  have HR1 : Hid (w1.rowIs Sb 101 N fun _ => .map none) := Lib.hid (by rw [HW1.out, HX.out, HS.out]; exact (World.rowIs_made w (.map none) N 101).alloc _)
  have HN1 : Hid (New w w1) := Lib.hid (by rw [HW1.out]; exact ((Fr.refl _ _).alloc _).alloc _)
  have n1 : (0 : Int) < (N : Int) := by omega
  clear e0
  go_enter Try.func35, Try.ntmps35
  go_wp2_with (first
    | (rw [← HW1.out]; refine wpList_insert_own _ rfl _ _ _ 101 rfl 3 3 law3 ul45 _ _ 0 _ rfl HO.out (by unfold maxLen; omega) _ _ _ rfl rfl (Maps.keyOf_int_mk Try.underlying3 (wf64 (by omega))) _ [] (plainElem_int Try.underlying3 (wf64 (by omega))) ?_; intro w3 hown2 hg2; rw [← HS.out]; have HO2 := Lib.hid hown2; have HN2 : Hid (New w w3) := (Lib.hid (HN1.out.grown hg2 fun k ek => .inr (by cases ek; omega))); have HR2 : Hid (w3.rowIs Sb 101 N fun _ => .map none) := (Lib.hid (HR1.out.of_block (hg2.block _ HR1.out.lt (by rw [HS.out]; simp)))); have f0 := HR2.out.frozen 0; have c0 := HR2.out.cell (i := 0) (by omega); clear hown2 hg2)
    | go_in)
  clear f0 hs2 hmk
  go_loopw [5] (fun t wr => ∃ (s : Nat) (f : Nat → Value), 1 ≤ s ∧ s ≤ N ∧ t = .int .i64 s ∧ Hid (wr.rowIs Sb 101 N f) ∧ Hid (∀ i, i < s → Wk wr (f i) (Pl.dt tab n i) M) ∧ Hid (New w wr)) (fun t _ => N - (intOf t).toNat)
  case atStart => exact ⟨1, _, by omega, by omega, rfl, Lib.hid (HR2.out.set 0 _), Lib.hid fun i hi => by
    obtain rfl : i = 0 := by omega
    have h0 : Wk w3 (.map (some (Sb + 1))) [(0, 1)] (0 + 1) := ⟨_, _, by rw [HS.out], HO2.out, RD.put (c := 1) RD.empty rfl⟩
    have h1 := Wk.set h0 HR2.out 0 (.map (some (Sb + 1)))
    rw [if_pos rfl, HMM.out, Pl.dt_zero]
    refine Wk.tight h1 fun t ht => ?_
    rw [List.mem_singleton] at ht
    subst ht
    show -((n * E : Nat) : Int) ≤ 0 ∧ (0 : Int) ≤ ((n * E : Nat) : Int)
    omega, Lib.hid (HN2.out.setCell (.inr (by show w.heap.size ≤ Sb; rw [HS.out]; exact Nat.le_refl _)) _)⟩
  case round =>
    obtain ⟨s, f, hs1, hsN, rfl, HRS, HT, HF⟩ := hrel
    obtain ⟨wo, rfl⟩ : ∃ wo : World, wo = wr := ⟨_, rfl⟩
    by_cases hlt : s < N
    · have hlt2 : s < 2 ^ n := by rw [← HNN.out]; exact hlt
      obtain ⟨p, hpp, hpn⟩ := HB.out.pop hlt2 (by omega)
      have HL2 := Lib.hid hlt2
      have HP := Lib.hid hpp
      have HOn : Hid (∀ W, Calls Try.prog 55 #[.int .u64 s] W fun e w' => e = .returned (.int .i64 ((p : Int) + 1)) ∧ New W w') := Lib.hid fun W => by
        have := ones_any s (by omega) W
        rw [show Kn.pop 12 s = p + 1 from hpp] at this
        simpa using this
      obtain ⟨b, o, c', a1, c1, ev, d1, hr1⟩ := HM.out.at hpn
      injection ev with ev1 ev2 ev3
      subst ev1
      have HD1 := Lib.hid d1
      have HRR := Lib.hid hr1
      clear hpp hlt2 ev2 ev3 d1 hr1
      have i1 : (0 : Int) ≤ (p : Int) := by omega
      have i2 : (p : Int) < (n : Int) := by omega
      go_wp2_with fail
      refine (HOn.out _).mono ?_
      rintro e w' ⟨rfl, hn⟩
      have HF1 : Hid (New w w') := Lib.hid (HF.out.trans hn)
      have HRS1 : Hid (w'.rowIs Sb 101 N f) := Lib.hid (HRS.out.of_block (hn.block Sb HRS.out.lt fun x => x))
      have HT1 : Hid (∀ i, i < s → Wk w' (f i) (Pl.dt tab n i) M) := Lib.hid fun i hi => New.wk hn (HT.out i hi)
      have d1 := HF1.out.cell HD1.out fun x => x
      clear hn HF HRS HT
      go_wp2
      obtain ⟨B, HBB⟩ : ∃ B, Hid (B = w'.heap.size) := ⟨_, Lib.hid rfl⟩
      obtain ⟨wm, HWM⟩ : ∃ wm, Hid (wm = w'.alloc (.map #[] 0)) := ⟨_, Lib.hid rfl⟩
      rw [← HWM.out, ← HBB.out]
      have HNm : Hid (New w' wm) := Lib.hid (by rw [HWM.out]; exact (Fr.refl _ _).alloc _)
      have HB0 : Hid (OM wm B 0 (.map [])) := Lib.hid (by rw [HWM.out, HBB.out]; exact World.ownsMap_made _ _ _ _)
      go_loopw [7, 36] (fun out i wi => ∃ k : Nat, k ≤ n ∧ i = .int .i64 k ∧ Hid (Wk wi out (Pl.dout tab (Pl.dt tab n) s k) M) ∧ Hid (New w' wi)) (fun _ i _ => n - (intOf i).toNat)
      case atStart => exact ⟨0, by omega, rfl, Lib.hid (by
        rw [HMM.out]
        exact Wk.tight ⟨_, _, rfl, HB0.out, RD.empty⟩ fun t ht => absurd ht (by simp [Pl.dout])), HNm⟩
      case round =>
        obtain ⟨k, hk, rfl, HWk, HFi⟩ := hrel
        by_cases hk3 : k < n
        · obtain ⟨b2, o2, x, rfl, d2, hx⟩ := HRR.out.at hk3
          have d2 := (HF1.out.trans HFi.out).cell d2 fun x => x
          have HXW := Lib.hid (New.wk (HF1.out.trans HFi.out) hx)
          clear hx
          obtain ⟨q1, HQ1⟩ : ∃ q : Nat, Hid (q = s >>> k) := ⟨_, Lib.hid rfl⟩
          have h1 : (s : Int) / 2 ^ k = (q1 : Int) := by rw [HQ1.out]; exact shr_div s k
          have hq8 : q1 < 1024 := by rw [HQ1.out]; have := Nat.shiftRight_le s k; omega
          have h2 := and_g (q := q1) (by omega)
          have hbit : q1 % 2 = if s.testBit k then 1 else 0 := by rw [HQ1.out]; exact bit_is
          obtain ⟨q2, HQ2⟩ : ∃ q : Nat, Hid (q = s >>> (k + 1)) := ⟨_, Lib.hid rfl⟩
          have h3 : (s : Int) / 2 ^ (k + 1) = (q2 : Int) := by rw [HQ2.out]; exact shr_div s (k + 1)
          have hq28 : q2 < 1024 := by rw [HQ2.out]; have := Nat.shiftRight_le s (k + 1); omega
          by_cases hb : s.testBit k = true
          · rw [hbit, if_pos hb] at h2
            clear hbit
            have h2' : bits BinOp.and IntKind.i64 (q1 : Int) 1 = 1 := h2
            clear h2
            have ho2 := fun W => ones_any q2 (by omega) W
            obtain ⟨bb, HBt⟩ : ∃ bb, Hid (bb = Pl.pp q2) := ⟨_, Lib.hid rfl⟩
            rw [show Kn.pop 12 q2 = bb from HBt.out.symm] at ho2
            have hbb : bb ≤ 12 := by rw [HBt.out]; exact Pl.pop_le' 12 _
            have HO3 := Lib.hid ho2
            have HBIT := Lib.hid hb
            clear ho2
            go_wp2_with fail
            refine (HO3.out _).mono ?_
            rintro e w4 ⟨rfl, hn4⟩
            have HF4 : Hid (New w' w4) := Lib.hid (HFi.out.trans hn4)
            have HWk4 : Hid (Wk w4 u7 (Pl.dout tab (Pl.dt tab n) s k) M) := Lib.hid (New.wk hn4 HWk.out)
            have HWx : Hid (Wk w4 x (Pl.ent tab p k) ne) := Lib.hid (New.wk hn4 HXW.out)
            clear h1 h3 h2' hn4
            obtain ⟨s', HS'⟩ : ∃ s' : Nat, Hid (s' = s - 2 ^ k) := ⟨_, Lib.hid rfl⟩
            obtain ⟨z, HZ⟩ : ∃ z : Nat, Hid (z = 2 ^ k) := ⟨_, Lib.hid rfl⟩
            have g1 : wrap64 (2 ^ k) = (z : Int) := by rw [HZ.out]; exact of_decide_eq_true (List.all_eq_true.1 wrap_all k (List.mem_range.2 (by omega)))
            have g2 : bits BinOp.andNot IntKind.i64 (s : Int) (z : Int) = (s' : Int) := by rw [HZ.out, HS'.out]; exact andNot_g (by omega) (by omega) HBIT.out
            have hlt' : s' < s := by rw [HS'.out]; exact (HB.out.less HL2.out HP.out HBIT.out).1
            have g3 : (0 : Int) ≤ (s' : Int) := by omega
            have g4 : (s' : Int) < (N : Int) := by omega
            have dS := (HRS1.out.of_block (HF4.out.block Sb HRS1.out.lt fun x => x)).cell (i := s') (by omega)
            obtain ⟨y, HY⟩ : ∃ y, Hid (y = f s') := ⟨_, Lib.hid rfl⟩
            rw [← HY.out] at dS
            obtain ⟨lx, HLX⟩ : ∃ lx, Hid (lx = Pl.ent tab p k) := ⟨_, Lib.hid rfl⟩
            obtain ⟨ly, HLY⟩ : ∃ ly, Hid (ly = Pl.dt tab n s') := ⟨_, Lib.hid rfl⟩
            have HWy : Hid (Wk w4 y ly M) := Lib.hid (by rw [HY.out, HLY.out]; exact New.wk HF4.out (HT1.out s' hlt'))
            rw [← HLX.out] at HWx
            have HTE : Hid (Pl.size lx * Pl.size ly ≤ 100000000000000 ∧ Exps 1000 lx ∧ Exps 1000 ly ∧ Exps 1000 (Pl.mul lx ly)) := Lib.hid (by rw [HLX.out, HLY.out, HS'.out]; exact HB.out.term HL2.out HP.out hpn hk3 HBIT.out)
            go_wp2_with fail
            refine (timesW_any x y lx ly ne M _ HWx.out HWy.out (by have := HNE.out; omega) (HTE.out.2.1.mono (by omega)) (HTE.out.2.2.1.mono (by omega)) (by have := HTE.out.1; omega)).mono ?_
            rintro e wa ⟨u, rfl, hu, hn1⟩
            have HU := Lib.hid hu
            have HA := Lib.hid hn1
            clear hu hn1 g1 g2 g3 g4 dS
            go_wp2_with fail
            refine (shiftW_any u _ _ _ _ _ HU.out (by omega) (by omega) (by have := HNE.out; omega) (HTE.out.2.2.2.mono (by omega)) (by rw [Pl.size_mul]; exact HTE.out.1)).mono ?_
            rintro e wb ⟨u2, rfl, hu, hn1⟩
            have HU2 : Hid (Wk wb u2 (Pl.sc (Pl.sg bb) (Pl.mul lx ly)) (ne * M)) := Lib.hid (by rw [← sh_sc]; exact hu)
            have HB2 : Hid (New w4 wb) := Lib.hid (HA.out.trans hn1)
            clear hu hn1
            obtain ⟨out, HOUT⟩ : ∃ o, Hid (o = u7) := ⟨_, Lib.hid rfl⟩
            have hsz : Hid (Pl.size (Pl.dout tab (Pl.dt tab n) s k) + Pl.size (Pl.sc (Pl.sg bb) (Pl.mul lx ly)) ≤ 1000000000000000000) := Lib.hid (by
              have h1 := (HB.out.out HL2.out HP.out hpn (k := k) hk).1
              have h2 := HTE.out.1
              rw [Pl.sc_size (Pl.sg_one bb), Pl.size_mul]
              omega)
            have hex : Hid (Exps 1000000000 (Pl.sc (Pl.sg bb) (Pl.mul lx ly))) := Lib.hid (Pl.ExpsW.sc (HTE.out.2.2.2.mono (by omega)))
            go_wp2_with fail
            refine (plusW_any _ _ _ _ _ _ _ (New.wk HB2.out HWk4.out) HU2.out (by have := HNE.out; omega) hex.out hsz.out).mono ?_
            rintro e wc ⟨u3, rfl, hu, hn1⟩
            have HU3 : Hid (Wk wc u3 (Pl.dout tab (Pl.dt tab n) s (k + 1)) M) := Lib.hid (by
              rw [HMM.out]
              refine Wk.tight (n := M + ne * M) ?_ (HB.out.out HL2.out HP.out hpn (k := k + 1) hk3).2
              rw [dout_yes HBIT.out, HP.out, ← HS'.out, ← HQ2.out, ← HBt.out, Nat.add_sub_cancel, ← HLX.out, ← HLY.out]
              exact hu)
            have HC3 : Hid (New w' wc) := Lib.hid (HF4.out.trans (HB2.out.trans hn1))
            clear hu hn1
            go_wp2
            go_roundw
            case rel => exact ⟨k + 1, by omega, by go_num, HU3, HC3⟩
            case measure => simp [intOf]; omega
          · rw [hbit, if_neg hb] at h2
            clear hbit
            have h2' : bits BinOp.and IntKind.i64 (q1 : Int) 1 = 0 := h2
            clear h2
            go_wp2
            go_roundw
            case rel => exact ⟨k + 1, by omega, by go_num, Lib.hid (by rw [dout_no hb]; exact HWk.out), HFi⟩
            case measure => simp [intOf]; omega
        · obtain rfl : k = n := by omega
          have dS := (HRS1.out.of_block (HFi.out.block Sb HRS1.out.lt fun x => x))
          have HDS := Lib.hid dS
          have hc := dS.cell (i := s) (by omega)
          have hf := dS.frozen s
          have g3 : (0 : Int) ≤ (s : Int) := by omega
          have g4 : (s : Int) < (N : Int) := by omega
          clear dS
          obtain ⟨b9, D9, rfl, ho9, hr9⟩ := HWk.out
          have HW9 : Hid (Wk wr (.map (some b9)) (Pl.dt tab k s) M) := Lib.hid ⟨b9, D9, rfl, ho9, by rw [Pl.dt_eq tab k (by omega)]; exact hr9⟩
          clear ho9 hr9
          go_wp2
          go_roundw
          case rel => exact ⟨s + 1, _, by omega, by omega, by go_num, Lib.hid (HDS.out.set s _), Lib.hid fun i hi => by
            by_cases c : i = s
            · subst c
              rw [if_pos rfl]
              exact Wk.set HW9.out HDS.out _ _
            · rw [if_neg c]
              exact Wk.set (New.wk HFi.out (HT1.out i (by omega))) HDS.out _ _, Lib.hid ((HF1.out.trans HFi.out).setCell (.inr (by show w.heap.size ≤ Sb; rw [HS.out]; exact Nat.le_refl _)) _)⟩
          case measure => simp [intOf]; omega
    · obtain rfl : s = N := by omega
      obtain ⟨j, hj⟩ : ∃ j, s = j + 1 := ⟨s - 1, by omega⟩
      have hj2 : (s : Int) - 1 = (j : Int) := by omega
      have d7 := HRS.out.cell (i := j) (by omega)
      have hw7 := HT.out j (by omega)
      have hj3 : 2 ^ n - 1 = j := by rw [← HNN.out]; omega
      rw [← hj3] at hw7
      obtain ⟨y, HY⟩ : ∃ y, Hid (y = f j) := ⟨_, Lib.hid rfl⟩
      rw [hj3] at hw7
      rw [← HY.out] at d7 hw7
      have HW7 := Lib.hid hw7
      have HJ := Lib.hid hj3
      clear hw7 hj3
      go_wp2
      go_ret
      exact ⟨y, rfl, by rw [HJ.out]; exact HW7.out, HF.out⟩
end Go.Proofs.Ytcfpdeeipbekfaa
