/- Walks: Shift of a map of coefficients. -/
import Derived.Test.YtcfpdeeipbekfaaP8
namespace Go.Proofs.Ytcfpdeeipbekfaa
open Go.RowKit

def sh (q s : Int) (l : List Pl.T) : List Pl.T := l.map fun t => (t.1 + q, s * t.2)
theorem sh_co (q s : Int) (l : List Pl.T) (e : Int) : Pl.co (sh q s l) e = s * Pl.co l (e - q) := by
  induction l with
  | nil => simp [sh, Pl.co_nil]
  | cons t l ih =>
    show Pl.co ((t.1 + q, s * t.2) :: sh q s l) e = _
    rw [Pl.co_cons, Pl.co_cons, ih, Int.mul_add]
    by_cases c : t.1 = e - q
    · rw [if_pos (show t.1 + q = e by omega), if_pos c]
    · rw [if_neg (show ¬ t.1 + q = e by omega), if_neg c]; simp
theorem sh_snoc (q s : Int) (l : List Pl.T) (x c : Int) : sh q s (l ++ [(x, c)]) = sh q s l ++ [(x + q, s * c)] := by simp [sh]
theorem sh_exps {q s : Int} {l l' : List Pl.T} (h : ∀ t ∈ l, ∃ u ∈ l', u.1 = t.1) : ∀ t ∈ sh q s l, ∃ u ∈ sh q s l', u.1 = t.1 := by
  intro t ht
  obtain ⟨v, hv, rfl⟩ := List.mem_map.1 ht
  obtain ⟨u, hu, e⟩ := h v hv
  exact ⟨(u.1 + q, s * u.2), List.mem_map.2 ⟨u, hu, rfl⟩, by simp only [e]⟩
theorem mul_bd {s c : Int} {A B : Nat} (h : -(A : Int) ≤ s ∧ s ≤ A) (k : -(B : Int) ≤ c ∧ c ≤ B) : -((A : Int) * B) ≤ s * c ∧ s * c ≤ (A : Int) * B := by
  have h1 : s.natAbs ≤ A := by omega
  have h2 : c.natAbs ≤ B := by omega
  have h3 := Nat.mul_le_mul h1 h2
  rw [← Int.natAbs_mul] at h3
  have h4 : ((A * B : Nat) : Int) = (A : Int) * B := by simp
  omega
set_option maxRecDepth 100000 in
set_option maxHeartbeats 1000000 in
theorem shiftW_any (va : Value) (q s : Int) (la : List Pl.T) (na : Nat) (w : World) (ha : Wk w va la na) (hs : -5000 ≤ s ∧ s ≤ 5000) (hq : -1000 ≤ q ∧ q ≤ 1000) (hn : na ≤ 1000000) (he : Exps 1000000000 la) (hz : Pl.size la ≤ 100000000000000) :
    Calls Try.prog 54 #[va, .int .i64 q, .int .i64 s] w (GaveW (sh q s la) na w) := by
  obtain ⟨b, D, rfl, ho, hd⟩ := ha
  have hlt := ho.lt
  have HO := Lib.hid ho
  have HD := Lib.hid hd
  have HE := Lib.hid he
  have HSS := Lib.hid hs
  have HS := Lib.hid hz
  have HZ := Lib.hid ho.size
  have s1 : -5000 ≤ s := hs.1
  have s2 : s ≤ 5000 := hs.2
  have q1 : -1000 ≤ q := hq.1
  have q2 : q ≤ 1000 := hq.2
  clear ho hd he hs hz hq
  have hmm := @run_makeMap Try.prog
  obtain ⟨B, HB⟩ : ∃ B, Hid (B = w.heap.size) := ⟨_, Lib.hid rfl⟩
  obtain ⟨wm, HWM⟩ : ∃ wm, Hid (wm = w.alloc (.map #[] 0)) := ⟨_, Lib.hid rfl⟩
  obtain ⟨r, HR⟩ : ∃ r, Hid (r = wm.heap.size) := ⟨_, Lib.hid rfl⟩
  have HFm : Hid (New w wm) := Lib.hid (by rw [HWM.out]; exact (Fr.refl _ _).alloc _)
  have HOm : Hid (OM wm b na D) := Lib.hid (New.om HFm.out HO.out)
  have HOB : Hid (OM wm B 0 (.map [])) := Lib.hid (by rw [HWM.out, HB.out]; exact World.ownsMap_made _ _ _ _)
  have hBr : B ≠ r := by
    rw [HR.out]
    have := HOB.out.lt
    omega
  have hb1 : b ≠ B := by rw [HB.out]; omega
  go_enter Try.func54, Try.ntmps54
  go_wp2_with (first
    | (at_range; rw [← HWM.out, ← HB.out]; refine wpList_range_own _ rfl _ 101 rfl 3 3 law3 ul45 _ b na _ rfl HOm.out ?_; intro w0 hrg0 hg0 hs0)
    | go_in)
  go_frame
  rw [← HR.out] at hrg0 hs0 ⊢
  have HF0 : Hid (New w w0) := Lib.hid (HFm.out.grown hg0 fun k ek => by cases ek)
  have HOB0 : Hid (OM w0 B 0 (.map [])) := Lib.hid (HOB.out.kept hg0 (by simp))
  have HR0 := Lib.hid (Rng.start HD.out hrg0)
  clear hrg0 hg0 hs0
  go_loopw [8, 9] (fun _ _ wr => ∃ (left : Lit → Bool) (cnt m : Nat) (Dout : DataW Unit) (done : List Pl.T), m + cnt ≤ na ∧ Hid (Rng wr b r na D la left cnt done) ∧ Hid (OM wr B m Dout) ∧ Hid (RD Dout (sh q s done)) ∧ Hid (New w wr))
    (fun _ _ wr => wr.rangeLeft b r)
  case atStart => exact ⟨_, _, 0, .map [], [], by have := HZ.out; omega, HR0, HOB0, Lib.hid RD.empty, HF0⟩
  case round =>
    obtain ⟨left, cnt, m, Dout, done, hm, HRg, HOo, HDo, HF⟩ := hrel
    go_wp2_with (first
      | (at_next; refine wpList_next_ranges_ii _ rfl _ rfl 3 3 .i64 .i64 law3 Try.underlying3 Try.underlying3 b r na _ _ _ rfl HRg.out.rg ?_ ?_)
      | go_in)
    · intro hc0 hl0
      have HL0 := Lib.hid hl0
      clear hl0
      go_wp2
      go_ret
      exact ⟨_, rfl, ⟨_, Dout, rfl, HOo.out.mono (by omega), HDo.out.congr (fun e => by rw [sh_co, sh_co, HRg.out.all HL0.out]) (sh_exps HRg.out.part.exps)⟩, HF.out⟩
    · intro x c w2 cnt1 hwx hwc hlx hat hrg1 hlt1 hg1 hs1 hen
      have HR1 : Hid (Rng w2 b r na D la (fun z => left z && !z.sameKey (.int .i64 x)) cnt1 (done ++ [(x, c)])) := Lib.hid (HRg.out.step HD.out hlx hat hrg1)
      have hc0 : Pl.co (sh q s done) (x + q) = 0 := by
        rw [sh_co, show x + q - q = x by omega, Pl.co_none fun t ht e => by
          have := HRg.out.part.gone t ht
          simp only [e] at this
          rw [hlx] at this
          cases this]
        simp
      have HO1 : Hid (OM w2 B m Dout) := Lib.hid (HOo.out.kept hg1 (by simpa using hBr))
      have HF1 : Hid (New w w2) := Lib.hid (HF.out.grown hg1 fun k ek => .inr (by cases ek; rw [HR.out]; exact HFm.out.size))
      obtain ⟨u, hu, hux⟩ := HR1.out.part.exps (x, c) (by simp)
      have hxe := HE.out u hu
      rw [hux] at hxe
      have x1 : -1000000000 ≤ x := hxe.1
      have x2 : x ≤ 1000000000 := hxe.2
      have hcb := (HD.out.at hat).1
      have hcl := Pl.co_le' HS.out x
      rw [← hcb] at hcl
      have c1 : -1000000000000000000 ≤ c := by omega
      have c2 : c ≤ 1000000000000000000 := by omega
      obtain ⟨p, HP⟩ : ∃ p, Hid (p = s * c) := ⟨_, Lib.hid rfl⟩
      have hpb : -(5000 * 100000000000000) ≤ p ∧ p ≤ 5000 * 100000000000000 := by rw [HP.out]; exact mul_bd HSS.out hcl
      have p1 : -1000000000000000000 ≤ p := by omega
      have p2 : p ≤ 1000000000000000000 := by omega
      have hw : wrap64 (c * s) = p := by rw [HP.out, Int.mul_comm]; exact IntWalk.wrap64_in _ (by rw [← HP.out]; omega)
      have HLT := Lib.hid hlt1
      have HC0 := Lib.hid hc0
      clear hwx hwc hlx hat hrg1 hg1 hs1 hu hux hxe hlt1 hcb hcl hpb hc0
      go_wp2_with (first
        | (at_mapUpdate; refine wpList_mapUpdate_own _ rfl _ _ _ 101 rfl 3 3 law3 ul45 _ B m _ rfl HO1.out (by unfold maxLen; omega) _ _ _ rfl rfl (Maps.keyOf_int_mk Try.underlying3 (wf64 (by omega))) _ [] (plainElem_int Try.underlying3 (wf64 (by omega))) ?_; intro w3 hown2 hg2; go_frame)
        | go_in)
      have HO2 := Lib.hid hown2
      have HR2 := Lib.hid (HR1.out.kept hg2 (by simpa using hb1) (by simpa using hBr.symm))
      have HF2 : Hid (New w w3) := Lib.hid (HF1.out.grown hg2 fun k ek => .inr (by cases ek; rw [HB.out]; exact Nat.le_refl _))
      clear hown2 hg2
      go_roundw
      case rel => exact ⟨_, cnt1, m + 1, _, _, by have := HLT.out; omega, HR2, HO2, Lib.hid (by rw [sh_snoc]; exact RD.put HDo.out (by rw [HC0.out, hw, HP.out]; omega)), HF2⟩
      case measure => rw [HR2.out.rg.left_eq, HRg.out.rg.left_eq]; exact HLT.out
end Go.Proofs.Ytcfpdeeipbekfaa
