/- Walks: Plus. -/
import Derived.Test.YtcfpdeeipbekfaaP5
import Derived.Test.YtcfpdeeipbekfaaShelf
namespace Go.Proofs.Ytcfpdeeipbekfaa
open Go.RowKit

theorem cloneW_any (b n : Nat) (D : DataW Unit) (w : World) (hown : OM w b n D) :
    Calls Try.prog 65 #[.map (some b)] w fun e w' => e = .returned (.map (some w.heap.size)) ∧ OM w' w.heap.size n D ∧ OM w' b n D ∧ Below w.heap.size w w' :=
  AnyW.maps_Clone_owns Try.cloneA 3 _ b n D w hown

abbrev RG (w : World) (b r n : Nat) (D : DataW Unit) (left : Lit → Bool) (cnt : Nat) : Prop := w.ranges Try.prog 3 (plainElem Try.prog 3) b r n D left cnt
/- how far a range over a map that reads as l has come: done -/
structure Rng (w : World) (b r n : Nat) (D : DataW Unit) (l : List Pl.T) (left : Lit → Bool) (cnt : Nat) (done : List Pl.T) : Prop where
  rg : RG w b r n D left cnt
  part : Pl.Part l (fun e => left (.int .i64 e)) done
theorem Rng.size {w : World} {b r n : Nat} {D : DataW Unit} {l : List Pl.T} {left : Lit → Bool} {cnt : Nat} {done : List Pl.T} (h : Rng w b r n D l left cnt done) : Pl.size done ≤ Pl.size l := h.part.size_le
theorem Rng.kept {w w' : World} {row : Option Nat} {b r n : Nat} {D : DataW Unit} {l : List Pl.T} {left : Lit → Bool} {cnt : Nat} {done : List Pl.T} (h : Rng w b r n D l left cnt done) (hg : w.grownBy w' row) (hb : some b ≠ row) (hr : some r ≠ row) : Rng w' b r n D l left cnt done :=
  ⟨h.rg.kept hg hb hr, h.part⟩
theorem Rng.start {w : World} {b r n : Nat} {D : DataW Unit} {l : List Pl.T} {cnt : Nat} (hD : RD D l) (h : RG w b r n D (Maps.has D) cnt) : Rng w b r n D l (Maps.has D) cnt [] := ⟨h, hD.start⟩
theorem Rng.step {w w' : World} {b r n : Nat} {D : DataW Unit} {l : List Pl.T} {left : Lit → Bool} {cnt cnt' : Nat} {done : List Pl.T} {x c : Int} (hD : RD D l) (h : Rng w b r n D l left cnt done) (hlx : left (.int .i64 x) = true) (hat : ∀ zd, D.atKey (.int .i64 x) zd = .lit (.int .i64 c))
    (hr : RG w' b r n D (fun z => left z && !z.sameKey (.int .i64 x)) cnt') : Rng w' b r n D l (fun z => left z && !z.sameKey (.int .i64 x)) cnt' (done ++ [(x, c)]) := by
  obtain ⟨h1, h2⟩ := hD.at hat
  exact ⟨hr, h.part.step hlx (fun _ => by simp only [sameKey_i64]) h1 h2⟩
theorem Rng.all {w : World} {b r n : Nat} {D : DataW Unit} {l : List Pl.T} {left : Lit → Bool} {cnt : Nat} {done : List Pl.T} (h : Rng w b r n D l left cnt done) (hl : ∀ kl, left kl = false) : ∀ e, Pl.co done e = Pl.co l e := h.part.all' fun _ => hl _

/- the slots of a key and a value in a list of bounds -/
theorem snoc_bd {l : List Pl.T} {S : Nat} {x c : Int} (h : Pl.size (l ++ [(x, c)]) ≤ S) : -(S : Int) ≤ Pl.co l x + c ∧ Pl.co l x + c ≤ S ∧ -(S : Int) ≤ Pl.co l x ∧ Pl.co l x ≤ S := by
  have h1 := Pl.co_le' h x
  rw [Pl.co_app, Pl.co_cons, Pl.co_nil, if_pos rfl, Int.add_zero] at h1
  rw [Pl.size_app] at h
  have h2 := Pl.co_le' (l := l) (S := S) (by omega) x
  exact ⟨h1.1, h1.2, h2.1, h2.2⟩

set_option maxRecDepth 100000 in
set_option maxHeartbeats 1000000 in
theorem plusW_any (va vb : Value) (la lb : List Pl.T) (na nb : Nat) (w : World) (ha : Wk w va la na) (hb : Wk w vb lb nb) (hn : na + nb ≤ 1000000) (he : Exps 1000000000 lb) (hs : Pl.size la + Pl.size lb ≤ 1000000000000000000) :
    Calls Try.prog 52 #[va, vb] w (GaveW (la ++ lb) (na + nb) w) := by
  obtain ⟨b, D, rfl, ho, hd⟩ := ha
  obtain ⟨b', D', rfl, ho', hd'⟩ := hb
  have hc := cloneW_any b na D w ho
  have hlt := ho.lt
  have hlt' := ho'.lt
  have HO' := Lib.hid ho'
  have HD := Lib.hid hd
  have HD' := Lib.hid hd'
  have HE := Lib.hid he
  have HS := Lib.hid hs
  have HC := Lib.hid hc
  have HZ := Lib.hid ho'.size
  clear ho ho' hd hd' he hs hc
  go_enter Try.func52, Try.ntmps52
  go_wp2_with fail
  obtain ⟨B, HB⟩ : ∃ B, Hid (B = w.heap.size) := ⟨_, Lib.hid rfl⟩
  refine HC.out.mono ?_
  rw [← HB.out]
  rintro e w1 ⟨rfl, h1, _, hB⟩
  have HF1 : Hid (New w w1) := Lib.hid (Fr.ofBelow (by rw [HB.out] at hB; exact hB) _)
  have HO1 := Lib.hid h1
  have HO'1 := Lib.hid (New.om HF1.out HO'.out)
  obtain ⟨r, HR⟩ : ∃ r, Hid (r = w1.heap.size) := ⟨_, Lib.hid rfl⟩
  clear h1 hB
  go_wp2_with (first
    | (at_range; refine wpList_range_own _ rfl _ 101 rfl 3 3 law3 ul45 _ b' nb _ rfl HO'1.out ?_; intro w0 hrg0 hg0 hs0)
    | go_in)
  go_frame
  rw [← HR.out] at hrg0 hs0 ⊢
  have HF0 : Hid (New w w0) := Lib.hid (HF1.out.grown hg0 fun k ek => by cases ek)
  have HO0 : Hid (OM w0 B na D) := Lib.hid (HO1.out.kept hg0 (by simp))
  have HR0 := Lib.hid (Rng.start HD'.out hrg0)
  have hrB : B ≠ r := by
    rw [HR.out]
    have := HO1.out.lt
    omega
  have hbB : b' ≠ B := by rw [HB.out]; omega
  clear hrg0 hg0 hs0
  go_loopw [6, 7] (fun _ _ wr => ∃ (left : Lit → Bool) (cnt m : Nat) (Dout : DataW Unit) (done : List Pl.T), m + cnt ≤ na + nb ∧ Hid (Rng wr b' r nb D' lb left cnt done) ∧ Hid (OM wr B m Dout) ∧ Hid (RD Dout (la ++ done)) ∧ Hid (New w wr))
    (fun _ _ wr => wr.rangeLeft b' r)
  case atStart => exact ⟨_, _, na, D, [], by have := HZ.out; omega, HR0, HO0, Lib.hid (by rw [List.append_nil]; exact HD.out), HF0⟩
  case round =>
    obtain ⟨left, cnt, m, Dout, done, hm, HRg, HO, HDo, HF⟩ := hrel
    go_wp2_with (first
      | (at_next; refine wpList_next_ranges_ii _ rfl _ rfl 3 3 .i64 .i64 law3 Try.underlying3 Try.underlying3 b' r nb _ _ _ rfl HRg.out.rg ?_ ?_)
      | go_in)
    · intro hc0 hl0
      have HL0 := Lib.hid hl0
      clear hl0
      go_wp2
      go_ret
      exact ⟨_, rfl, ⟨_, Dout, rfl, HO.out.mono (by omega), HDo.out.congr (fun e => by rw [Pl.co_app, Pl.co_app, HRg.out.all HL0.out]) (Pl.app_exps (Pl.same_exps la) HRg.out.part.exps)⟩, HF.out⟩
    · intro x c w2 cnt1 hwx hwc hlx hat hrg1 hlt hg1 hs1 hen
      have HR1 : Hid (Rng w2 b' r nb D' lb (fun z => left z && !z.sameKey (.int .i64 x)) cnt1 (done ++ [(x, c)])) := Lib.hid (HRg.out.step HD'.out hlx hat hrg1)
      have HO1' : Hid (OM w2 B m Dout) := Lib.hid (HO.out.kept hg1 (by simpa using hrB))
      have HF1' : Hid (New w w2) := Lib.hid (HF.out.grown hg1 fun k ek => .inr (by cases ek; rw [HR.out]; exact HF1.out.size))
      obtain ⟨u, hu, hux⟩ := HR1.out.part.exps (x, c) (by simp)
      have hxe := HE.out u hu
      rw [hux] at hxe
      have hsz : Pl.size ((la ++ done) ++ [(x, c)]) ≤ 1000000000000000000 := by
        rw [List.append_assoc, Pl.size_app]
        have := HR1.out.size
        have := HS.out
        omega
      have hbd := snoc_bd hsz
      obtain ⟨q, HQ⟩ : ∃ q, Hid (q = Pl.co (la ++ done) x) := ⟨_, Lib.hid rfl⟩
      rw [← HQ.out] at hbd
      have z1 : -1000000000000000000 ≤ q + c := by omega
      have z2 : q + c ≤ 1000000000000000000 := by omega
      have z5 : -1000000000000000000 ≤ q := by omega
      have z6 : q ≤ 1000000000000000000 := by omega
      have x1 : -1000000000 ≤ x := hxe.1
      have x2 : x ≤ 1000000000 := hxe.2
      have HLT := Lib.hid hlt
      clear hwx hwc hlx hat hrg1 hg1 hs1 hu hux hxe hsz hbd hlt
      go_wp2_with (first
        | (at_lookup; refine wpList_lookup_own_int _ rfl _ _ 101 rfl 3 3 .i64 law3 ul45 Try.underlying3 (zero3 _) B m _ rfl HO1'.out _ _ rfl (Maps.keyOf_int_mk Try.underlying3 (wf64 (by omega))) ?_; intro cc hat hwc; obtain ⟨HCC, c1, c2, c3, c4⟩ := look_bd HDo.out HQ.out hat z1 z2 z5 z6; have c5 : -2000000000000000000 ≤ c := (by omega); have c6 : c ≤ 2000000000000000000 := (by omega); clear hat hwc)
        | (at_mapUpdate; refine wpList_mapUpdate_own _ rfl _ _ _ 101 rfl 3 3 law3 ul45 _ B m _ rfl HO1'.out (by unfold maxLen; omega) _ _ _ rfl rfl (Maps.keyOf_int_mk Try.underlying3 (wf64 (by omega))) _ [] (plainElem_int Try.underlying3 (wf64 (by omega))) ?_; intro w3 hown2 hg2; go_frame)
        | go_in)
      have HO2 := Lib.hid hown2
      have HR2 := Lib.hid (HR1.out.kept hg2 (by simpa using hbB) (by simpa using hrB.symm))
      have HF2 : Hid (New w w3) := Lib.hid (HF1'.out.grown hg2 fun k ek => .inr (by cases ek; rw [HB.out]; exact Nat.le_refl _))
      clear hown2 hg2
      go_roundw
      case rel => exact ⟨_, cnt1, m + 1, _, _, by have := HLT.out; omega, HR2, HO2, Lib.hid (by rw [← List.append_assoc]; exact RD.put HDo.out (by rw [HCC.out, HQ.out])), HF2⟩
      case measure => rw [HR2.out.rg.left_eq, HRg.out.rg.left_eq]; exact HLT.out
end Go.Proofs.Ytcfpdeeipbekfaa
