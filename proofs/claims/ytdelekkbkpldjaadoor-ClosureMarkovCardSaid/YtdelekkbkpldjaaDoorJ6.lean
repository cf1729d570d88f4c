/- Walks: the bracket. -/
import Derived.Test.YtdelekkbkpldjaaDoorJ5b
namespace Go.Proofs.YtdelekkbkpldjaaDoor
open Go.RowKit

set_option maxRecDepth 100000 in
set_option maxHeartbeats 4000000 in
theorem bracket_any (b n : Nat) (X : List Kn.Cr) (L : Nat) (w : World) (h : ShAt w b X (L : Int)) (hX : Kn.Ok X) (hn : n = X.length) (h12 : n ≤ 12) (hL : 2 * n + L ≤ 30) (hL1 : L ≤ 16) (h0 : 0 < n + L) (ht : EnvT w) :
    Calls Tryd.prog 22 #[.pointer (some ⟨b, 0, none⟩)] w fun e w' => ∃ v l, e = .returned v ∧ Wk w' v l 301 ∧ New w w' ∧ (∀ x, Pl.co l x = Pl.tot (Kn.kindsTo X L (2 ^ n)) (Kn.phj x)) ∧ (∀ t ∈ l, -(150 : Int) ≤ t.1 ∧ t.1 ≤ 150) ∧ Pl.size l ≤ 10000000000000 := by
  have HS := Lib.hid h
  have HX := Lib.hid hX
  have HN := Lib.hid hn
  have HT := Lib.hid ht
  have hmm := @run_makeMap Tryd.prog
  obtain ⟨a1, c1, h0w, hLw, hcr⟩ := h.crs
  rw [← hn] at h0w
  obtain ⟨mb, HMB⟩ : ∃ cb, Hid (cb = w.heap.size) := ⟨_, Lib.hid rfl⟩
  have hs2 : wrap64 (2 ^ n) = ((2 ^ n : Nat) : Int) := of_decide_eq_true (List.all_eq_true.1 wrap_all n (List.mem_range.2 (by omega)))
  clear h hX hn ht hcr hLw
  obtain ⟨N, HNN⟩ : ∃ N, Hid (N = 2 ^ n) := ⟨_, Lib.hid rfl⟩
  have hN : N ≤ 4096 := by rw [HNN.out]; exact Nat.pow_le_pow_right (by decide) h12
  rw [← HNN.out] at hs2 ⊢
  go_enter Tryd.func22, Tryd.ntmps22
  go_wp2
  rw [hs2, ← HMB.out]
  clear h0w hs2
  have HK0 : Hid (KMap (w.alloc (.map #[] 0)) mb 0 (Kn.kindsTo X L 0)) := Lib.hid (by rw [HMB.out]; exact KMap.made w)
  go_loopw [19] (fun i wr => ∃ k : Nat, k ≤ N ∧ i = .int .i64 k ∧ Hid (New w wr) ∧ Hid (KMap wr mb k (Kn.kindsTo X L k))) (fun i _ => N - (intOf i).toNat)
  case atStart => exact ⟨0, by omega, rfl, Lib.hid ((Fr.refl _ _).alloc _), HK0⟩
  case round =>
    obtain ⟨k, hk, rfl, HF, HK⟩ := hrel
    by_cases hkn : k < N
    · have hk4 : k < 4096 := by omega
      have hp := kindI_is (X := X) (L := L) (by have := HN.out; omega) (by have := HN.out; omega) k
      have hco := Pl.co_le' (Nat.le_of_eq (kinds_size X L k)) (kcP (Kn.kindI X L k))
      obtain ⟨p, HP⟩ : ∃ p, Hid (p = Kn.kindI X L k) := ⟨_, Lib.hid rfl⟩
      rw [← HP.out] at hp hco
      have HPK := Lib.hid hp
      have HP1 : Hid (((Kn.pop 12 k : Nat) : Int) * 2 = n - p.1) := Lib.hid (by
        have e : Kn.pop 12 k = Kn.pop n k := pop_ext (by have := HNN.out; omega) h12
        rw [HP.out, e]
        have := HN.out
        subst this
        simp only [Kn.kindI]; omega)
      have HP2 : Hid (((2 * n + L - (Kn.stateF (X.map Kn.qd) (Kn.start n) k).2 : Nat) : Int) = p.2) := Lib.hid (by
        rw [HP.out]
        have := HN.out
        subst this
        rfl)
      obtain ⟨⟨p1, p2⟩, p3, p4⟩ := hp
      obtain ⟨m1, HM1⟩ : ∃ z, Hid (z = p.1) := ⟨_, Lib.hid rfl⟩
      obtain ⟨m2, HM2⟩ : ∃ z, Hid (z = p.2) := ⟨_, Lib.hid rfl⟩
      obtain ⟨pc, HPC⟩ : ∃ z, Hid (z = Kn.pop 12 k) := ⟨_, Lib.hid rfl⟩
      obtain ⟨cc, HCC⟩ : ∃ z, Hid (z = Pl.co (Kn.kindsTo X L k) (kcP p)) := ⟨_, Lib.hid rfl⟩
      rw [← HM1.out] at p1 p2
      rw [← HM2.out] at p3 p4
      rw [← HCC.out] at hco
      have hco1 : -5000 ≤ cc := by omega
      have hco2 : cc ≤ 5000 := by omega
      have hpc : pc ≤ 12 := by rw [HPC.out]; exact pop_le 12 k
      have hpm : (n : Int) - 2 * (pc : Int) = m1 := by have := HP1.out; rw [← HPC.out, ← HM1.out] at this; omega
      have EP : p = (m1, m2) := by rw [HM1.out, HM2.out]
      have HEP := Lib.hid EP
      clear hco EP
      go_upto_region 6 with fail
      obtain ⟨r0, HR0⟩ : ∃ z, Hid (z = wr.drew) := ⟨_, Lib.hid rfl⟩
      have HN0 : Hid (New w r0) := Lib.hid (by rw [HR0.out]; exact HF.out.drew)
      have HK1 : Hid (KMap r0 mb k (Kn.kindsTo X L k)) := Lib.hid (HK.out.fr (show New wr r0 by rw [HR0.out]; exact (Fr.refl _ _).drew) fun x => x)
      have LK : ∀ wz, KMap wz mb k (Kn.kindsTo X L k) → (Instr.lookup 91 (.map (some mb)) (.agg #[.int .i64 m1, .int .i64 m2]) false).run Tryd.prog wz = .ok (.int .i64 cc) wz := fun wz hz => by
        have := hz.look HPK.out
        rw [HEP.out] at this
        rw [HCC.out, HEP.out]; exact this
      have HLK := Lib.hid LK
      refine wp_region_held_drew (S := fun _ => True) (by kernel_rfl) trivial (fun hHeld => ?_)
      rw [← HR0.out]
      clear LK
      refine' tkO (i := 0) ?_
      (try simp only [Act.put, lq1, lq2, lq3, lq4, lq5, lq6])
      refine' tkO (i := 1) ?_
      (try simp only [Act.put, lq1, lq2, lq3, lq4, lq5, lq6])
      refine' tkO (i := 2) ?_
      (try simp only [Act.put, lq1, lq2, lq3, lq4, lq5, lq6])
      refine' tkO (i := 3) ?_
      (try simp only [Act.put, lq1, lq2, lq3, lq4, lq5, lq6])
      refine' tkO (i := 7) ?_
      (try simp only [Act.put, lq1, lq2, lq3, lq4, lq5, lq6])
      refine' tkO (i := 8) ?_
      (try simp only [Act.put, lq1, lq2, lq3, lq4, lq5, lq6])
      refine rdO (i := 4) (fun K hK => ?_)
      (try simp only [lq1, lq2, lq3])
      go_simp
      rw [show IntKind.u64.wrap (k : Int) = (k : Int) by unfold IntKind.wrap; simp [IntKind.signed, IntKind.bits]; omega]
      refine (ones_any k hk4 _).mono ?_
      rintro e r1 ⟨rfl, hF⟩
      rw [← HPC.out]
      have HN1 := Lib.hid (HN0.out.trans hF)
      have HK2 := Lib.hid (HK1.out.fr hF fun x => x)
      clear hF
      go_wp2_with fail
      refine hK.out _ _ trivial (fun hHeld => ?_)
      clear hK K
      (try simp only [Act.put, lq1, lq2, lq3, lq4, lq5, lq6])
      refine' tkO (i := 5) ?_
      (try simp only [Act.put, lq1, lq2, lq3, lq4, lq5, lq6])
      refine' tkO (i := 6) ?_
      (try simp only [Act.put, lq1, lq2, lq3, lq4, lq5, lq6])
      refine rdO (i := 9) (fun K hK => ?_)
      (try simp only [lq1, lq2, lq3])
      go_simp
      refine (rings_any b k n X L _ (New.shAt HN1.out HS.out) HX.out HN.out h12 hk4 hL1 (New.envT HN1.out HT.out)).mono ?_
      rintro e r2 ⟨rfl, hF⟩
      rw [HP2.out, ← HM2.out]
      have HN2 := Lib.hid (HN1.out.trans hF)
      have HK3 := Lib.hid (HK2.out.fr hF fun x => x)
      clear hF
      go_wp2_with fail
      refine hK.out _ _ trivial (fun hHeld => ?_)
      clear hK K
      (try simp only [Act.put, lq1, lq2, lq3, lq4, lq5, lq6])
      rw [show IntKind.i64.wrap ((n : Int) - IntKind.i64.wrap (2 * (pc : Int))) = m1 by rw [IntWalk.i64_in (2 * (pc : Int)) (by omega), IntWalk.i64_in _ (by omega), hpm]]
      refine' tkO (i := 10) ?_
      (try simp only [Act.put, lq1, lq2, lq3, lq4, lq5, lq6])
      have hlk0 := HLK.out _ HK3.out
      have HLK0 := Lib.hid hlk0
      clear hlk0
      obtain ⟨v0, st, W1, W2, hme, hF1, hlk, hes, hk2, hF2⟩ := HK3.out.entry (by unfold maxLen; omega) HPK.out (by rw [← HCC.out]; omega)
      rw [← HCC.out] at hlk hes
      rw [HEP.out] at hme hlk
      have HME : Hid ((Instr.mapEntry 91 (.map (some mb)) (.agg #[.int .i64 m1, .int .i64 m2])).run Tryd.prog r2 = .ok (.tuple #[v0, .int .i64 st]) W1) := Lib.hid hme
      have HLK1 : Hid ((Instr.lookup 91 (.map (some mb)) (.agg #[.int .i64 m1, .int .i64 m2]) false).run Tryd.prog W1 = .ok (.int .i64 cc) W1) := Lib.hid hlk
      have HES := Lib.hid hes
      clear hme hlk hes
      refine wpAnyH_ready (rs := [11, 13]) (by kernel_rfl) (by simp) ?_
      have HPE : Hid (kcP p = Kn.kcode X L k) := Lib.hid (by rw [HP.out]; rfl)
      refine AllReadyH.cons rfl (fun K hK => ?_) (AllReadyH.cons rfl (fun K hK => ?_) AllReadyH.nil)
      · skip
        (try simp only [lq1, lq2, lq3])
        have heq := HLK0.out
        go_simp
        clear heq
        refine hK.out _ _ trivial (fun hHeld => ?_)
        clear hK K
        (try simp only [Act.put, lq1, lq2, lq3, lq4, lq5, lq6])
        refine' tkO (i := 12) ?_
        (try simp only [Act.put, lq1, lq2, lq3, lq4, lq5, lq6])
        rw [show IntKind.i64.wrap (cc + 1) = cc + 1 from IntWalk.i64_in _ (by omega)]
        refine rdO (i := 13) (fun K hK => ?_)
        (try simp only [lq1, lq2, lq3])
        have heq := HME.out
        go_simp
        clear heq
        refine hK.out _ _ trivial (fun hHeld => ?_)
        clear hK K
        (try simp only [Act.put, lq1, lq2, lq3, lq4, lq5, lq6])
        refine' tkO (i := 14) ?_
        (try simp only [Act.put, lq1, lq2, lq3, lq4, lq5, lq6])
        refine rdO (i := 15) (fun K hK => ?_)
        (try simp only [lq1, lq2, lq3])
        have heq := HES.out
        go_simp
        clear heq
        refine hK.out _ _ trivial (fun hHeld => ?_)
        clear hK K
        (try simp only [Act.put, lq1, lq2, lq3, lq4, lq5, lq6])
        refine wpAnyH_done (by kernel_rfl) ?_ _
        go_wp2
        go_roundw
        case rel => exact ⟨k + 1, by omega, by go_num, Lib.hid (HN2.out.next hF2 fun i hi => .inr (by rw [hi, HMB.out]; exact Nat.le_refl _)), Lib.hid (by rw [Kn.kindsTo_succ]; have h := hk2; rw [HPE.out] at h; exact h)⟩
        case measure => simp [intOf]; omega
      · skip
        (try simp only [lq1, lq2, lq3])
        have heq := HME.out
        go_simp
        clear heq
        refine hK.out _ _ trivial (fun hHeld => ?_)
        clear hK K
        (try simp only [Act.put, lq1, lq2, lq3, lq4, lq5, lq6])
        refine' tkO (i := 14) ?_
        (try simp only [Act.put, lq1, lq2, lq3, lq4, lq5, lq6])
        refine rdO (i := 11) (fun K hK => ?_)
        (try simp only [lq1, lq2, lq3])
        have heq := HLK1.out
        go_simp
        clear heq
        refine hK.out _ _ trivial (fun hHeld => ?_)
        clear hK K
        (try simp only [Act.put, lq1, lq2, lq3, lq4, lq5, lq6])
        refine' tkO (i := 12) ?_
        (try simp only [Act.put, lq1, lq2, lq3, lq4, lq5, lq6])
        rw [show IntKind.i64.wrap (cc + 1) = cc + 1 from IntWalk.i64_in _ (by omega)]
        refine rdO (i := 15) (fun K hK => ?_)
        (try simp only [lq1, lq2, lq3])
        have heq := HES.out
        go_simp
        clear heq
        refine hK.out _ _ trivial (fun hHeld => ?_)
        clear hK K
        (try simp only [Act.put, lq1, lq2, lq3, lq4, lq5, lq6])
        refine wpAnyH_done (by kernel_rfl) ?_ _
        go_wp2
        go_roundw
        case rel => exact ⟨k + 1, by omega, by go_num, Lib.hid (HN2.out.next hF2 fun i hi => .inr (by rw [hi, HMB.out]; exact Nat.le_refl _)), Lib.hid (by rw [Kn.kindsTo_succ]; have h := hk2; rw [HPE.out] at h; exact h)⟩
        case measure => simp [intOf]; omega
    · obtain rfl : N = k := by omega
      obtain ⟨mp, HMP⟩ : ∃ z, Hid (z = wr.heap.size) := ⟨_, Lib.hid rfl⟩
      obtain ⟨wa, HWA⟩ : ∃ z, Hid (z = wr.alloc (.map #[] 0)) := ⟨_, Lib.hid rfl⟩
      have HOa : Hid (OM wa mp 0 (.map [])) := Lib.hid (by rw [HWA.out, HMP.out]; exact World.ownsMap_made _ _ _ _)
      have HNa : Hid (New wr wa) := Lib.hid (by rw [HWA.out]; exact (Fr.refl _ _).alloc _)
      have hmbl : mb < mp := by rw [HMP.out]; exact HK.out.lt
      obtain ⟨D, hD⟩ := HK.out
      have HOD := Lib.hid hD.1
      have HKD := Lib.hid hD.2
      clear hD
      obtain ⟨i1, hi1, hz10, hz11, hz12⟩ := info_parts Tryd.info64
      go_wp2_with (first
        | (rw [← HWA.out, ← HMP.out]; refine wpList_insert_own _ rfl _ _ _ 64 rfl 3 3 law3 ul45 _ _ 0 _ rfl HOa.out (by unfold maxLen; omega) _ _ _ rfl rfl (Maps.keyOf_int_mk Tryd.underlying3 (wf64 (by omega))) _ [] (plainElem_int Tryd.underlying3 (wf64 (by omega))) ?_; intro w3 hown2 hg2; have HO3 := Lib.hid hown2; have HN3 : Hid (New wr w3) := (Lib.hid (HNa.out.grown hg2 fun k ek => .inr (by cases ek; rw [HMP.out]; exact Nat.le_refl _))); clear hown2 hg2)
        | (at_range; refine wpList_range_own _ rfl _ 91 rfl 96 3 Tryd.law96 Tryd.ul91 _ mb N D rfl (own89 HOD.out (((HN3.out.alloc _).alloc _))) ?_; intro w0 hrg0 hg0 hs0)
        | go_in)
      go_frame
      obtain ⟨r, HR⟩ : ∃ z, Hid (z = ((w3.alloc (.cells #[.map (some mp)] 64)).alloc (.map #[] 0)).heap.size) := ⟨_, Lib.hid rfl⟩
      have HG0 : Hid (New ((w3.alloc (.cells #[.map (some mp)] 64)).alloc (.map #[] 0)) w0) := Lib.hid ((Fr.refl _ _).grown hg0 fun k ek => by cases ek)
      have HN0 : Hid (New w w0) := Lib.hid (((((HF.out.trans HN3.out).alloc _).alloc _)).trans HG0.out)
      have HP0 : Hid (PwAt w.heap.size w0 (.slice (some ⟨w3.heap.size, 0, none⟩) 1 1) 1) := Lib.hid (PwAt.new (PwAt.new (PwAt.one ⟨_, _, rfl, HO3.out, RD.put (c := 1) RD.empty rfl⟩ (HF.out.trans HN3.out).size) ((Fr.refl _ _).alloc _)) HG0.out)
      have e0 : (w3.alloc (.cells #[.map (some mp)] 64)).heap.size = w3.heap.size + 1 := by simp
      have HW0 : Hid (Wk w0 (.map (some (w3.heap.size + 1))) [] 301) := Lib.hid (New.wk HG0.out (Wk.mono ⟨_, _, rfl, by rw [← e0]; exact World.ownsMap_made _ _ _ _, RD.empty⟩ (Nat.zero_le _)))
      rw [← HR.out] at hrg0 ⊢
      have HRG0 := Lib.hid hrg0
      have HKP0 : Hid (KPart D (Kn.kindsTo X L N) (Maps.has D) []) := Lib.hid (KPart.start HKD.out (kinds_kind (by have := HN.out; omega) (by have := HN.out; omega) N))
      have HRL : Hid (w.heap.size ≤ r) := Lib.hid (by rw [HR.out]; have := (HF.out.trans HN3.out).size; simp; omega)
      clear hrg0 hg0 hs0 e0 HOD HO3 HN3 HNa HOa HWA HK HK0
      go_loopw [6, 7] (fun pv ov wr => ∃ (left : Lit → Bool) (cnt m : Nat) (done l : List Pl.T), 1 ≤ m ∧ m ≤ 30 ∧ Hid (KRg wr mb r N D left cnt) ∧ Hid (KPart D (Kn.kindsTo X L N) left done) ∧ Hid (PwAt w.heap.size wr pv m) ∧ Hid (Wk wr ov l 301) ∧ Hid (BO done l) ∧ Hid (New w wr)) (fun _ _ wr => wr.rangeLeft mb r)
      case atStart => exact ⟨_, _, 1, [], [], by omega, by omega, HRG0, HKP0, HP0, HW0, Lib.hid BO.start, HN0⟩
      case round =>
        obtain ⟨left, cnt, m, done, l, hm1, hm30, HRG, HKP, HPW, HWO, HBO, HFr⟩ := hrel
        obtain ⟨a6, c6, rfl⟩ := HPW.out.sl
        obtain ⟨ob, _, _, rfl, _⟩ := HWO.out.blk
        go_wp2_with (first
          | (at_next; refine wpList_next_kind rfl _ rfl mb r N D (Kn.kindsTo X L N) left cnt done rfl HRG.out HKP.out ?_ ?_)
          | go_in)
        · intro hl0
          have HL0 := Lib.hid hl0
          clear hl0
          go_wp2
          go_ret
          exact ⟨_, l, rfl, HWO.out, HFr.out, fun x => by rw [HBO.out.co, HKP.out.all HL0.out], HBO.out.exps, by
            have h1 := HBO.out.size
            have h2 := HKP.out.part.size_le
            rw [kinds_size] at h2
            omega⟩
        · intro m1 m2 c kl w2 cnt2 hk hc hrg hlt hkp hF2 hen
          obtain ⟨q1, q2⟩ := rings_of HX.out (L := L) (k := N) (by have := HN.out; omega) (by have := HN.out; omega) (by have := HN.out; omega) hk (by
            obtain ⟨u, hu, e⟩ := hkp.part.exps (kcP (m1, m2), c) (by simp)
            exact ⟨u, hu, e⟩)
          have hcb := Pl.co_le' (Nat.le_of_eq (kinds_size X L N)) (kcP (m1, m2))
          rw [← hc] at hcb
          obtain ⟨c1', c2'⟩ := hcb
          obtain ⟨o', a', sn, cx, hir⟩ := HRG.out.iter
          have HPW2 : Hid (PwAt w.heap.size w2 (.slice a6 m c6) m) := Lib.hid (HPW.out.turn hF2 hir)
          have HWO2 : Hid (Wk w2 (.map (some ob)) l 301) := Lib.hid (HWO.out.turn hF2 hir)
          have HFr2 : Hid (New w w2) := Lib.hid (HFr.out.next hF2 fun i hi => .inr (by rw [hi]; exact HRL.out))
          have HBO2 : Hid (BO (done ++ [(kcP (m1, m2), c)]) (l ++ sh m1 c (Kn.pw (m2.toNat - 1)))) := Lib.hid (HBO.out.step hk q1 q2)
          have HK2 := Lib.hid hk
          have HKP2 := Lib.hid hkp
          have HRG2 := Lib.hid hrg
          have HLT := Lib.hid hlt
          clear hk hc hrg hlt hkp hF2 hir
          obtain ⟨kb, HKB⟩ : ∃ z, Hid (z = w2.heap.size) := ⟨_, Lib.hid rfl⟩
          obtain ⟨wk, HWK⟩ : ∃ z, Hid (z = w2.alloc (.cells #[.int .i64 m1, .int .i64 m2] 96)) := ⟨_, Lib.hid rfl⟩
          have HNk : New w2 wk := by rw [HWK.out]; exact (Fr.refl _ _).alloc _
          have HPWk : Hid (PwAt w.heap.size wk (.slice a6 m c6) m) := Lib.hid (HPW2.out.new HNk)
          have HWOk : Hid (Wk wk (.map (some ob)) l 301) := Lib.hid (New.wk HNk HWO2.out)
          have HFrk : Hid (New w wk) := Lib.hid (HFr2.out.trans HNk)
          have HRGk := Lib.hid (HRG2.out.new HNk)
          have HKBk : Hid (wk.heap[kb]? = some (.cells #[.int .i64 m1, .int .i64 m2] 96 (0, 0))) := Lib.hid (by rw [HWK.out, HKB.out]; exact heap_alloc_new w2 _)
          go_wp2_with fail
          rw [← HWK.out, ← HKB.out]
          clear HNk HPW2 HWO2 HFr2 HRG2 HWK HKB hen
          go_loopw [6] (fun pv wr => ∃ q : Nat, q ≤ 29 ∧ Hid (PwAt w.heap.size wr pv (q + 1)) ∧ Hid (KRg wr mb r N D (fun z => left z && !z.sameKey kl) cnt2) ∧ Hid (Wk wr (.map (some ob)) l 301) ∧ Hid (New w wr) ∧ Hid (wr.heap[kb]? = some (.cells #[.int .i64 m1, .int .i64 m2] 96 (0, 0)))) (fun pv _ => 30 - slLen pv)
          case atStart =>
            obtain ⟨q, rfl⟩ : ∃ q, m = q + 1 := ⟨m - 1, by omega⟩
            exact ⟨q, by omega, HPWk, HRGk, HWOk, HFrk, HKBk⟩
          case round =>
            obtain ⟨q, hq, HP, HRGr, HWOr, HFR, HKr⟩ := hrel
            obtain ⟨k0, k1⟩ := two_c HKr.out
            obtain ⟨g6, c7, bq, rfl, hcell, hwk⟩ := HP.out.at (i := q) (by omega)
            have HWQ := Lib.hid hwk
            clear hwk
            by_cases hlt : (q : Int) + 1 < m2
            · obtain ⟨vs, h1, h2⟩ := HP.out
              have hvl : vs.length = q + 1 := by rw [h2.len, List.length_range]
              rw [hvl] at h1
              have H1 := Lib.hid h1
              have H2 := Lib.hid h2
              clear h1 h2 hvl
              obtain ⟨mq, HMQ⟩ : ∃ z, Hid (z = wr.heap.size) := ⟨_, Lib.hid rfl⟩
              obtain ⟨wa, HWA⟩ : ∃ z, Hid (z = wr.alloc (.map #[] 0)) := ⟨_, Lib.hid rfl⟩
              have HOa : Hid (OM wa mq 0 (.map [])) := Lib.hid (by rw [HWA.out, HMQ.out]; exact World.ownsMap_made _ _ _ _)
              have HNa : Hid (New wr wa) := Lib.hid (by rw [HWA.out]; exact (Fr.refl _ _).alloc _)
              have hq0 : (0 : Int) ≤ (q : Int) := by omega
              go_wp2_with (first
                | (rw [← HWA.out, ← HMQ.out]; refine wpList_insert_own _ rfl _ _ _ 64 rfl 3 3 law3 ul45 _ _ 0 _ rfl HOa.out (by unfold maxLen; omega) _ _ _ rfl rfl (Maps.keyOf_int_mk Tryd.underlying3 (wf64 (by omega))) _ [] (plainElem_int Tryd.underlying3 (wf64 (by omega))) ?_; intro wb hown2 hg2; have HOb := Lib.hid hown2; have HNb : Hid (New wr wb) := (Lib.hid (HNa.out.grown hg2 fun k ek => .inr (by cases ek; rw [HMQ.out]; exact Nat.le_refl _))); clear hown2 hg2)
                | (refine wpList_insert_own _ rfl _ _ _ 64 rfl 3 3 law3 ul45 _ _ 1 _ rfl HOb.out (by unfold maxLen; omega) _ _ _ rfl rfl (Maps.keyOf_int_mk Tryd.underlying3 (wf64 (by omega))) _ [] (plainElem_int Tryd.underlying3 (wf64 (by omega))) ?_; intro wc hown2 hg2; have HTW : Hid (Wk wc (.map (some mq)) Kn.two 2) := (Lib.hid ⟨_, _, rfl, hown2, RD.put (c := -1) (RD.put (c := -1) RD.empty (by decide)) (by decide)⟩); have HNc : Hid (New wr wc) := (Lib.hid (HNb.out.grown hg2 fun k ek => .inr (by cases ek; rw [HMQ.out]; exact Nat.le_refl _))); clear hown2 hg2)
                | (go_at_call 29; refine (timesW_any _ _ (Kn.pw q) Kn.two (4 * q + 1) 2 _ (New.wk HNc.out HWQ.out) HTW.out (by omega) (pw_ex (by omega)) two_ex (by rw [Kn.pw_size]; exact pw_two_size hq)).mono ?_; rintro e wd ⟨vd, rfl, hwd, hNd⟩; obtain ⟨bd, _, _, rfl, _⟩ := hwd.blk; have HWD : Hid (Wk wd (.map (some bd)) (Kn.pw (q + 1)) (4 * (q + 1) + 1)) := (Lib.hid (by have h : Wk wd (.map (some bd)) (Kn.pw (q + 1)) ((4 * q + 1) * 2) := hwd; have h3 := h.few (N := 2 * (q + 1)) (fun t ht => by have := Kn.pw_exps _ t ht; omega); exact h3.mono (by omega))); have HNd : Hid (New wr wd) := (Lib.hid (HNc.out.trans hNd)); have HRW : Hid (wd.ownsRow w.heap.size 64 1 (.slice (some ⟨g6, 0, none⟩) (q + 1) c7) (q + 1) vs) := (Lib.hid (HNd.out.owns H1.out fun _ _ x => x)); clear hwd hNd)
                | (at_builtin; refine wpList_append_own _ rfl _ _ 73 rfl w.heap.size 64 i1 (.map none) 1 8 Tryd.underlying73 hi1 hz10 hz11 hz12 rfl (by decide) _ (q + 1) vs rfl (World.ownsRow.alloc HRW.out _) ⟨wd.heap.size, 0, none⟩ 1 1 [.map (some bd)] rfl rfl (cell_one_new _ _ _) (one_map _) (by unfold maxLen; omega) (by omega) (by have := HFR.out.size; have := HNd.out.size; simp; omega) ?_; intro v' w7 hown hgrow _; obtain ⟨a9, c10, rfl, _⟩ := own_shape2 hown; have HOW := Lib.hid hown; have HGR := Lib.hid hgrow; clear hown hgrow)
                | go_in)
              go_roundw
              case rel =>
                refine ⟨q + 1, by omega, Lib.hid (PwAt.snoc HRW.out (H2.out.mono fun _ _ x => New.wk HNd.out x) HWD.out HOW.out HGR.out), Lib.hid ((HRGr.out.new HNd.out).grown HRW.out HGR.out), Lib.hid ((New.wk HNd.out HWOr.out).grown HRW.out HGR.out), Lib.hid (((HFR.out.trans HNd.out).alloc _).grown HGR.out fun k ek => .inr (own_lb HRW.out k ek)), Lib.hid ?_⟩
                have hF : Fr (fun k => (Value.slice (some ⟨g6, 0, none⟩) (q + 1) c7).ownBlock = some k) wd w7 := ((Fr.refl _ wd).alloc _).grown HGR.out fun k ek => .inl ek
                have hb := HNd.out.blk HKr.out fun x => x
                exact hF.blk hb (blk_not_own hb HRW.out (by decide))
              case measure => simp [slLen]; omega
            · clear hcell
              obtain ⟨j, rfl⟩ : ∃ j : Nat, m2 = (j : Int) + 1 := ⟨(m2 - 1).toNat, by omega⟩
              have hjq : j < q + 1 := by omega
              obtain ⟨g7, c8, bj, ej, hcj, hwj⟩ := HP.out.at hjq
              have eg : g7 = g6 := by injection ej with e1; injection e1 with e2; injection e2 with e3; exact e3.symm
              subst eg
              have HWJ := Lib.hid hwj
              clear ej hwj HWQ
              obtain ⟨⟨b1, b2⟩, _, _⟩ := HK2.out
              simp only at b1 b2
              obtain ⟨y0, HY00⟩ : ∃ z, Hid (z = wr.drew) := ⟨_, Lib.hid rfl⟩
              have hcj0 : y0.cell? ⟨g7, j, none⟩ = some (.map (some bj)) := by rw [HY00.out]; exact hcj
              have HY0 : Hid (New wr y0) := Lib.hid (by rw [HY00.out]; exact (Fr.refl _ _).drew)
              have HKY0 : Hid (y0.heap[kb]? = some (.cells #[.int .i64 m1, .int .i64 ((j : Int) + 1)] 96 (0, 0))) := Lib.hid (HY0.out.blk HKr.out fun x => x)
              clear hcj
              have hSS : y0.cell? ⟨kb, 0, none⟩ = some (.int .i64 m1) ∧ y0.cell? ⟨kb, 1, none⟩ = some (.int .i64 ((j : Int) + 1)) ∧ y0.cell? ⟨g7, j, none⟩ = some (.map (some bj)) := ⟨(two_c HKY0.out).1, (two_c HKY0.out).2, hcj0⟩
              rw [HY00.out] at hSS
              have HCJ := Lib.hid hcj0
              clear hcj0
              go_wp2_with fail
              have hcj0 := HCJ.out
              have j1 : (0 : Int) ≤ (j : Int) := by omega
              have j2 : (j : Int) < (q : Int) + 1 := by omega
              clear k0 k1 HCJ
              refine wp_region_held_drew (S := fun wz => wz.cell? ⟨kb, 0, none⟩ = some (.int .i64 m1) ∧ wz.cell? ⟨kb, 1, none⟩ = some (.int .i64 ((j : Int) + 1)) ∧ wz.cell? ⟨g7, j, none⟩ = some (.map (some bj))) (by kernel_rfl) hSS (fun hHeld => ?_)
              rw [← HY00.out] at hHeld ⊢
              clear hSS
              refine' tkO (i := 0) ?_
              (try simp only [Act.put, lq1, lq2, lq3, lq4, lq5, lq6])
              refine' tkO (i := 1) ?_
              (try simp only [Act.put, lq1, lq2, lq3, lq4, lq5, lq6])
              refine' tkO (i := 2) ?_
              (try simp only [Act.put, lq1, lq2, lq3, lq4, lq5, lq6])
              refine' tkO (i := 3) ?_
              (try simp only [Act.put, lq1, lq2, lq3, lq4, lq5, lq6])
              refine' tkO (i := 4) ?_
              (try simp only [Act.put, lq1, lq2, lq3, lq4, lq5, lq6])
              (try rw [show IntKind.i64.wrap (j : Int) = (j : Int) from IntWalk.i64_in _ (by omega)])
              refine' tkO (i := 5) ?_
              (try simp only [Act.put, lq1, lq2, lq3, lq4, lq5, lq6])
              refine' tkO (i := 6) ?_
              (try simp only [Act.put, lq1, lq2, lq3, lq4, lq5, lq6])
              refine' tkO (i := 7) ?_
              (try simp only [Act.put, lq1, lq2, lq3, lq4, lq5, lq6])
              refine' tkO (i := 8) ?_
              (try simp only [Act.put, lq1, lq2, lq3, lq4, lq5, lq6])
              refine' tkO (i := 9) ?_
              (try simp only [Act.put, lq1, lq2, lq3, lq4, lq5, lq6])
              refine rdO (i := 10) (fun K hK => ?_)
              (try simp only [lq1, lq2, lq3])
              go_simp
              refine (shiftW_any (.map (some bj)) m1 c (Kn.pw j) (4 * j + 1) _ (New.wk HY0.out HWJ.out) (by omega) (by omega) (by omega) (pw_ex (by omega)) (by rw [Kn.pw_size]; exact Nat.le_trans (Nat.pow_le_pow_right (by decide) (show j ≤ 29 by omega)) (by decide))).mono ?_
              rintro e y1 ⟨v1, rfl, hw1, hF⟩
              have HV1 := Lib.hid hw1
              obtain ⟨t1, _, _, rfl, _⟩ := hw1.blk
              have HY1 := Lib.hid (HY0.out.trans hF)
              have HKY1 := Lib.hid (hF.blk HKY0.out fun x => x)
              have hcj1 := hF.cell hcj0 fun x => x
              clear hF hw1 hcj0
              go_wp2_with fail
              refine hK.out _ _ ⟨(two_c HKY1.out).1, (two_c HKY1.out).2, hcj1⟩ (fun hHeld => ?_)
              clear hK K
              (try simp only [Act.put, lq1, lq2, lq3, lq4, lq5, lq6])
              refine rdO (i := 11) (fun K hK => ?_)
              (try simp only [lq1, lq2, lq3])
              go_simp
              refine (plusW_any (.map (some ob)) (.map (some t1)) l (sh m1 c (Kn.pw j)) 301 (4 * j + 1) _ (New.wk HY1.out HWOr.out) HV1.out (by omega) (sh_ex (by omega) (by omega)) (bo_size (by have h := HBO2.out; rwa [show ((j : Int) + 1).toNat - 1 = j by omega] at h) HKP2.out (by rw [kinds_size]; exact hN))).mono ?_
              rintro e y2 ⟨v2, rfl, hw2, hF⟩
              have HV2 := Lib.hid hw2
              obtain ⟨t2, _, _, rfl, _⟩ := hw2.blk
              have HY2 := Lib.hid (HY1.out.trans hF)
              have HKY2 := Lib.hid (hF.blk HKY1.out fun x => x)
              have hcj2 := hF.cell hcj1 fun x => x
              clear hF hw2 hcj1
              go_wp2_with fail
              refine hK.out _ _ ⟨(two_c HKY2.out).1, (two_c HKY2.out).2, hcj2⟩ (fun hHeld => ?_)
              clear hK K
              (try simp only [Act.put, lq1, lq2, lq3, lq4, lq5, lq6])
              refine' tkO (i := 12) ?_
              (try simp only [Act.put, lq1, lq2, lq3, lq4, lq5, lq6])
              refine wpAnyH_done (by kernel_rfl) ?_ _
              have HBO3 : Hid (BO (done ++ [(kcP (m1, (j : Int) + 1), c)]) (l ++ sh m1 c (Kn.pw j))) := Lib.hid (by have h := HBO2.out; rwa [show ((j : Int) + 1).toNat - 1 = j by omega] at h)
              go_wp2
              go_roundw
              case rel => exact ⟨_, cnt2, q + 1, _, _, by omega, by omega, Lib.hid (HRGr.out.new HY2.out), HKP2, Lib.hid (HP.out.new HY2.out), Lib.hid ((HV2.out.few (N := 150) HBO3.out.exps).mono (by omega)), HBO3, Lib.hid (HFR.out.trans HY2.out)⟩
              case measure =>
                have h1 := HRGr.out.new HY2.out
                rw [h1.left_eq, HRG.out.left_eq]; exact HLT.out
end Go.Proofs.YtdelekkbkpldjaaDoor
