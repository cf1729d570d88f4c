/- Walks: Along (region 1 printed by gen_n10.py). -/
import Derived.Test.YtlicglicfijelaaN0
import Derived.Test.YtlicglicfijelaaH0
import Derived.Test.YtlicglicfijelaaTK
namespace Go.Proofs.Ytlicglicfijelaa
open Go.RowKit

structure AL (w r : World) (a b c d : Int) (p : Bool) (o3 o4 : Option Nat) : Prop where
  new : New w r
  box : r.heap[w.heap.size]? = some (.cells #[.int .i64 a, .int .i64 b, .int .i64 c, .int .i64 d, .bool p] 58 (0, 0))
  res : r.heap[w.heap.size + 1]? = some (.cells #[.int .i64 0, .int .i64 0, .int .i64 0, .int .i64 0] 94 (0, 0))
  c3 : ∀ k, o3 = some k → w.heap.size + 2 ≤ k ∧ r.heap[k]? = some (.cells #[.int .i64 0, .int .i64 0] 93 (0, 0))
  c4 : ∀ k, o4 = some k → w.heap.size + 2 ≤ k ∧ r.heap[k]? = some (.cells #[.int .i64 0, .int .i64 0] 93 (0, 0))
  ne : ∀ k j, o3 = some k → o4 = some j → k ≠ j
section
variable {w r r' : World} {a b c d : Int} {p : Bool} {o3 o4 : Option Nat}
theorem AL.nw (h : AL w r a b c d p o3 o4) (hF : New r r') : AL w r' a b c d p o3 o4 :=
  ⟨h.new.trans hF, hF.blk h.box fun x => x, hF.blk h.res fun x => x, fun k e => ⟨(h.c3 k e).1, hF.blk (h.c3 k e).2 fun x => x⟩, fun k e => ⟨(h.c4 k e).1, hF.blk (h.c4 k e).2 fun x => x⟩, h.ne⟩
theorem AL.lt (h : AL w r a b c d p o3 o4) : w.heap.size + 2 ≤ r.heap.size := (Array.getElem?_eq_some_iff.1 h.res).1
theorem AL.a3 (h : AL w r a b c d p none o4) : AL w (r.alloc (.cells #[.int .i64 0, .int .i64 0] 93)) a b c d p (some r.heap.size) o4 := by
  have h' := h.nw ((Fr.refl (fun _ => False) r).alloc (.cells #[.int .i64 0, .int .i64 0] 93))
  refine ⟨h'.new, h'.box, h'.res, fun k e => ?_, h'.c4, fun k j e e' => ?_⟩
  · cases e; exact ⟨h.lt, heap_alloc_new r _⟩
  · cases e
    have := (Array.getElem?_eq_some_iff.1 (h.c4 j e').2).1
    omega
theorem AL.a4 (h : AL w r a b c d p o3 none) : AL w (r.alloc (.cells #[.int .i64 0, .int .i64 0] 93)) a b c d p o3 (some r.heap.size) := by
  have h' := h.nw ((Fr.refl (fun _ => False) r).alloc (.cells #[.int .i64 0, .int .i64 0] 93))
  refine ⟨h'.new, h'.box, h'.res, h'.c3, fun k e => ?_, fun j k e' e => ?_⟩
  · cases e; exact ⟨h.lt, heap_alloc_new r _⟩
  · cases e
    have := (Array.getElem?_eq_some_iff.1 (h.c3 j e').2).1
    omega
end
theorem two_set {W : World} {B t : Nat} {a b : Value} (h : W.heap[B]? = some (.cells #[a, b] t (0, 0))) (a' b' : Value) :
    ((W.setCell ⟨B, 0, none⟩ a').setCell ⟨B, 1, none⟩ b').heap[B]? = some (.cells #[a', b'] t (0, 0)) := by
  unfold World.setCell; simp [Array.getElem?_modify, h]
theorem two_fr (W : World) (B : Nat) (a b : Value) : Fr (fun k => k = B) W ((W.setCell ⟨B, 0, none⟩ a).setCell ⟨B, 1, none⟩ b) :=
  ((Fr.refl (fun k => k = B) W).setCell (a := ⟨B, 0, none⟩) (.inl rfl) _).setCell (a := ⟨B, 1, none⟩) (.inl rfl) _
abbrev alongV (x : Kn.Cr) : Value := .agg #[.int .i64 x.a, .int .i64 (upB x), .int .i64 (upA x), .int .i64 x.c]
set_option maxRecDepth 100000 in
set_option maxHeartbeats 4000000 in
theorem along_any (x : Kn.Cr) (w : World) : Calls Try.prog 29 #[crV x] w (fun e w' => e = .returned (alongV x) ∧ New w w') := by
  obtain ⟨a, b, c, d, p⟩ := x
  obtain ⟨ua, HUA⟩ : ∃ ua, Hid (upA ⟨a, b, c, d, p⟩ = ua) := ⟨_, Lib.hid rfl⟩
  obtain ⟨ub, HUB⟩ : ∃ ub, Hid (upB ⟨a, b, c, d, p⟩ = ub) := ⟨_, Lib.hid rfl⟩
  go_enter Try.func29, Try.ntmps29
  go_upto_region 1 with fail
  obtain ⟨w1, HW1⟩ : ∃ w1, Hid (w1 = (w.alloc (.cells #[.int .i64 a, .int .i64 b, .int .i64 c, .int .i64 d, .bool p] 58)).alloc (.cells #[.int .i64 0, .int .i64 0, .int .i64 0, .int .i64 0] 94)) := ⟨_, Lib.hid rfl⟩
  rw [← HW1.out]
  have HA0 : Hid (AL w w1.drew a b c d p none none) := Lib.hid (by
    have hb2 := heap_alloc_new (w.alloc (.cells #[.int .i64 a, .int .i64 b, .int .i64 c, .int .i64 d, .bool p] 58)) (.cells #[.int .i64 0, .int .i64 0, .int .i64 0, .int .i64 0] 94)
    rw [World.size_alloc] at hb2
    rw [HW1.out]
    exact ⟨(((Fr.refl _ w).alloc _).alloc _).drew, ((Fr.refl (fun _ => False) _).alloc _).drew.blk (heap_alloc_new w _) fun x => x, hb2, fun _ e => (by cases e), fun _ e => (by cases e), fun _ _ e => (by cases e)⟩)
  go_cut [3, 4] (fun t3 t4 wz => ∃ k j : Nat, t3 = .pointer (some ⟨k, 0, none⟩) ∧ t4 = .pointer (some ⟨j, 0, none⟩) ∧ Hid (wz.heap[k]? = some (.cells #[.int .i64 a, .int .i64 c] 93 (0, 0))) ∧ Hid (wz.heap[j]? = some (.cells #[.int .i64 ua, .int .i64 ub] 93 (0, 0))) ∧ Hid (New w wz) ∧ Hid (wz.heap[w.heap.size + 1]? = some (.cells #[.int .i64 0, .int .i64 0, .int .i64 0, .int .i64 0] 94 (0, 0))))
  case first =>
    have hSS := five_c HA0.out.box
    refine wp_region_held_drew (S := fun w' => w'.cell? ⟨w.heap.size, 0, none⟩ = some (.int .i64 a) ∧ w'.cell? ⟨w.heap.size, 1, none⟩ = some (.int .i64 b) ∧ w'.cell? ⟨w.heap.size, 2, none⟩ = some (.int .i64 c) ∧ w'.cell? ⟨w.heap.size, 3, none⟩ = some (.int .i64 d) ∧ w'.cell? ⟨w.heap.size, 4, none⟩ = some (.bool p)) (by kernel_rfl) hSS (fun hHeld => ?_)
    clear hSS
    generalize w1.drew = r0 at hHeld HA0 ⊢
    refine' tkO (i := 0) ?_
    (try simp only [Act.put, lq1, lq2, lq3, lq4, lq5, lq6])
    refine' tkO (i := 2) ?_
    (try simp only [Act.put, lq1, lq2, lq3, lq4, lq5, lq6])
    refine wpAnyH_ready (rs := [1, 4, 5]) (by kernel_rfl) (by simp) ?_
    refine AllReadyH.cons rfl (fun K hK => ?_) (AllReadyH.cons rfl (fun K hK => ?_) (AllReadyH.cons rfl (fun K hK => ?_) AllReadyH.nil))
    · skip
      (try simp only [lq1, lq2, lq3])
      go_simp
      refine (below_any ⟨a, b, c, d, p⟩ _).mono ?_
      rintro e r1 ⟨rfl, hF⟩
      have HA1 := Lib.hid (HA0.out.nw hF)
      clear hF
      go_wp2_with fail
      refine hK.out _ _ (five_c HA1.out.box) (fun hHeld => ?_)
      clear hK K
      (try simp only [Act.put, lq1, lq2, lq3, lq4, lq5, lq6])
      refine wpAnyH_ready (rs := [3, 4, 5]) (by kernel_rfl) (by simp) ?_
      refine AllReadyH.cons rfl (fun K hK => ?_) (AllReadyH.cons rfl (fun K hK => ?_) (AllReadyH.cons rfl (fun K hK => ?_) AllReadyH.nil))
      · skip
        (try simp only [lq1, lq2, lq3])
        go_simp
        refine (above_any ⟨a, b, c, d, p⟩ _).mono ?_
        rintro e r2 ⟨rfl, hF⟩
        rw [HUA.out, HUB.out]
        have HA2 := Lib.hid (HA1.out.nw hF)
        clear hF
        go_wp2_with fail
        refine hK.out _ _ (five_c HA2.out.box) (fun hHeld => ?_)
        clear hK K
        (try simp only [Act.put, lq1, lq2, lq3, lq4, lq5, lq6])
        refine wpAnyH_ready (rs := [4, 5]) (by kernel_rfl) (by simp) ?_
        refine AllReadyH.cons rfl (fun K hK => ?_) (AllReadyH.cons rfl (fun K hK => ?_) AllReadyH.nil)
        · skip
          (try simp only [lq1, lq2, lq3])
          go_simp
          have h7 := HA2.out.a3
          obtain ⟨k3, Hk3⟩ : ∃ z, Hid (z = r2.heap.size) := ⟨_, Lib.hid rfl⟩
          rw [← Hk3.out] at h7 ⊢
          generalize r2.alloc (.cells #[.int .i64 0, .int .i64 0] 93) = r3 at h7 ⊢
          have HA3 := Lib.hid h7
          clear h7
          refine hK.out _ _ (five_c HA3.out.box) (fun hHeld => ?_)
          clear hK K
          (try simp only [Act.put, lq1, lq2, lq3, lq4, lq5, lq6])
          refine wpAnyH_ready (rs := [5]) (by kernel_rfl) (by simp) ?_
          refine AllReadyH.cons rfl (fun K hK => ?_) AllReadyH.nil
          (try simp only [lq1, lq2, lq3])
          go_simp
          have h7 := HA3.out.a4
          obtain ⟨k4, Hk4⟩ : ∃ z, Hid (z = r3.heap.size) := ⟨_, Lib.hid rfl⟩
          rw [← Hk4.out] at h7 ⊢
          generalize r3.alloc (.cells #[.int .i64 0, .int .i64 0] 93) = r4 at h7 ⊢
          have HA4 := Lib.hid h7
          clear h7
          refine hK.out _ _ (five_c HA4.out.box) (fun hHeld => ?_)
          clear hK K
          (try simp only [Act.put, lq1, lq2, lq3, lq4, lq5, lq6])
          have hk3 := (HA4.out.c3 _ rfl)
          have hk4 := (HA4.out.c4 _ rfl)
          have hne := HA4.out.ne _ _ rfl rfl
          have HK3 := Lib.hid hk3.2
          have HK4 := Lib.hid hk4.2
          have l3 := hk3.1
          have l4 := hk4.1
          clear hk3 hk4
          refine rdO (i := 6) (fun K hK => ?_)
          (try simp only [lq1, lq2, lq3])
          obtain ⟨q1, q2, q3, q4⟩ := two_c HK3.out
          go_simp
          clear q1 q2 q3 q4
          have HE3 := Lib.hid (two_set HK3.out (.int .i64 a) (.int .i64 c))
          have HF3 := Lib.hid (two_fr r4 k3 (.int .i64 a) (.int .i64 c))
          generalize (r4.setCell ⟨k3, 0, none⟩ (.int .i64 a)).setCell ⟨k3, 1, none⟩ (.int .i64 c) = s3 at HE3 HF3 ⊢
          refine hK.out _ _ (five_c (HF3.out.blk HA4.out.box (by omega))) (fun hHeld => ?_)
          clear hK K
          (try simp only [Act.put, lq1, lq2, lq3, lq4, lq5, lq6])
          refine rdO (i := 7) (fun K hK => ?_)
          (try simp only [lq1, lq2, lq3])
          have HK4' := Lib.hid (HF3.out.blk HK4.out fun e => hne e.symm)
          obtain ⟨q1, q2, q3, q4⟩ := two_c HK4'.out
          go_simp
          clear q1 q2 q3 q4
          have HE4 := Lib.hid (two_set HK4'.out (.int .i64 ua) (.int .i64 ub))
          have HF4 := Lib.hid (two_fr s3 k4 (.int .i64 ua) (.int .i64 ub))
          generalize (s3.setCell ⟨k4, 0, none⟩ (.int .i64 ua)).setCell ⟨k4, 1, none⟩ (.int .i64 ub) = s4 at HE4 HF4 ⊢
          refine hK.out _ _ (five_c (HF4.out.blk (HF3.out.blk HA4.out.box (by omega)) (by omega))) (fun hHeld => ?_)
          clear hK K
          (try simp only [Act.put, lq1, lq2, lq3, lq4, lq5, lq6])
          refine wpAnyH_done (by kernel_rfl) ?_ _
          go_wp2
          go_meet
          exact ⟨k3, k4, rfl, rfl, Lib.hid (HF4.out.blk HE3.out hne), HE4, Lib.hid ((HA4.out.new.next HF3.out fun i hi => .inr (by omega)).next HF4.out fun i hi => .inr (by omega)), Lib.hid (HF4.out.blk (HF3.out.blk HA4.out.res (by omega)) (by omega))⟩
        · skip
          (try simp only [lq1, lq2, lq3])
          go_simp
          have h7 := HA2.out.a4
          obtain ⟨k4, Hk4⟩ : ∃ z, Hid (z = r2.heap.size) := ⟨_, Lib.hid rfl⟩
          rw [← Hk4.out] at h7 ⊢
          generalize r2.alloc (.cells #[.int .i64 0, .int .i64 0] 93) = r5 at h7 ⊢
          have HA5 := Lib.hid h7
          clear h7
          refine hK.out _ _ (five_c HA5.out.box) (fun hHeld => ?_)
          clear hK K
          (try simp only [Act.put, lq1, lq2, lq3, lq4, lq5, lq6])
          refine wpAnyH_ready (rs := [4]) (by kernel_rfl) (by simp) ?_
          refine AllReadyH.cons rfl (fun K hK => ?_) AllReadyH.nil
          (try simp only [lq1, lq2, lq3])
          go_simp
          have h7 := HA5.out.a3
          obtain ⟨k3, Hk3⟩ : ∃ z, Hid (z = r5.heap.size) := ⟨_, Lib.hid rfl⟩
          rw [← Hk3.out] at h7 ⊢
          generalize r5.alloc (.cells #[.int .i64 0, .int .i64 0] 93) = r6 at h7 ⊢
          have HA6 := Lib.hid h7
          clear h7
          refine hK.out _ _ (five_c HA6.out.box) (fun hHeld => ?_)
          clear hK K
          (try simp only [Act.put, lq1, lq2, lq3, lq4, lq5, lq6])
          have hk3 := (HA6.out.c3 _ rfl)
          have hk4 := (HA6.out.c4 _ rfl)
          have hne := HA6.out.ne _ _ rfl rfl
          have HK3 := Lib.hid hk3.2
          have HK4 := Lib.hid hk4.2
          have l3 := hk3.1
          have l4 := hk4.1
          clear hk3 hk4
          refine rdO (i := 6) (fun K hK => ?_)
          (try simp only [lq1, lq2, lq3])
          obtain ⟨q1, q2, q3, q4⟩ := two_c HK3.out
          go_simp
          clear q1 q2 q3 q4
          have HE3 := Lib.hid (two_set HK3.out (.int .i64 a) (.int .i64 c))
          have HF3 := Lib.hid (two_fr r6 k3 (.int .i64 a) (.int .i64 c))
          generalize (r6.setCell ⟨k3, 0, none⟩ (.int .i64 a)).setCell ⟨k3, 1, none⟩ (.int .i64 c) = s3 at HE3 HF3 ⊢
          refine hK.out _ _ (five_c (HF3.out.blk HA6.out.box (by omega))) (fun hHeld => ?_)
          clear hK K
          (try simp only [Act.put, lq1, lq2, lq3, lq4, lq5, lq6])
          refine rdO (i := 7) (fun K hK => ?_)
          (try simp only [lq1, lq2, lq3])
          have HK4' := Lib.hid (HF3.out.blk HK4.out fun e => hne e.symm)
          obtain ⟨q1, q2, q3, q4⟩ := two_c HK4'.out
          go_simp
          clear q1 q2 q3 q4
          have HE4 := Lib.hid (two_set HK4'.out (.int .i64 ua) (.int .i64 ub))
          have HF4 := Lib.hid (two_fr s3 k4 (.int .i64 ua) (.int .i64 ub))
          generalize (s3.setCell ⟨k4, 0, none⟩ (.int .i64 ua)).setCell ⟨k4, 1, none⟩ (.int .i64 ub) = s4 at HE4 HF4 ⊢
          refine hK.out _ _ (five_c (HF4.out.blk (HF3.out.blk HA6.out.box (by omega)) (by omega))) (fun hHeld => ?_)
          clear hK K
          (try simp only [Act.put, lq1, lq2, lq3, lq4, lq5, lq6])
          refine wpAnyH_done (by kernel_rfl) ?_ _
          go_wp2
          go_meet
          exact ⟨k3, k4, rfl, rfl, Lib.hid (HF4.out.blk HE3.out hne), HE4, Lib.hid ((HA6.out.new.next HF3.out fun i hi => .inr (by omega)).next HF4.out fun i hi => .inr (by omega)), Lib.hid (HF4.out.blk (HF3.out.blk HA6.out.res (by omega)) (by omega))⟩
      · skip
        (try simp only [lq1, lq2, lq3])
        go_simp
        have h7 := HA1.out.a3
        obtain ⟨k3, Hk3⟩ : ∃ z, Hid (z = r1.heap.size) := ⟨_, Lib.hid rfl⟩
        rw [← Hk3.out] at h7 ⊢
        generalize r1.alloc (.cells #[.int .i64 0, .int .i64 0] 93) = r7 at h7 ⊢
        have HA7 := Lib.hid h7
        clear h7
        refine hK.out _ _ (five_c HA7.out.box) (fun hHeld => ?_)
        clear hK K
        (try simp only [Act.put, lq1, lq2, lq3, lq4, lq5, lq6])
        refine wpAnyH_ready (rs := [3, 5]) (by kernel_rfl) (by simp) ?_
        refine AllReadyH.cons rfl (fun K hK => ?_) (AllReadyH.cons rfl (fun K hK => ?_) AllReadyH.nil)
        · skip
          (try simp only [lq1, lq2, lq3])
          go_simp
          refine (above_any ⟨a, b, c, d, p⟩ _).mono ?_
          rintro e r8 ⟨rfl, hF⟩
          rw [HUA.out, HUB.out]
          have HA8 := Lib.hid (HA7.out.nw hF)
          clear hF
          go_wp2_with fail
          refine hK.out _ _ (five_c HA8.out.box) (fun hHeld => ?_)
          clear hK K
          (try simp only [Act.put, lq1, lq2, lq3, lq4, lq5, lq6])
          refine wpAnyH_ready (rs := [5]) (by kernel_rfl) (by simp) ?_
          refine AllReadyH.cons rfl (fun K hK => ?_) AllReadyH.nil
          (try simp only [lq1, lq2, lq3])
          go_simp
          have h7 := HA8.out.a4
          obtain ⟨k4, Hk4⟩ : ∃ z, Hid (z = r8.heap.size) := ⟨_, Lib.hid rfl⟩
          rw [← Hk4.out] at h7 ⊢
          generalize r8.alloc (.cells #[.int .i64 0, .int .i64 0] 93) = r9 at h7 ⊢
          have HA9 := Lib.hid h7
          clear h7
          refine hK.out _ _ (five_c HA9.out.box) (fun hHeld => ?_)
          clear hK K
          (try simp only [Act.put, lq1, lq2, lq3, lq4, lq5, lq6])
          have hk3 := (HA9.out.c3 _ rfl)
          have hk4 := (HA9.out.c4 _ rfl)
          have hne := HA9.out.ne _ _ rfl rfl
          have HK3 := Lib.hid hk3.2
          have HK4 := Lib.hid hk4.2
          have l3 := hk3.1
          have l4 := hk4.1
          clear hk3 hk4
          refine rdO (i := 6) (fun K hK => ?_)
          (try simp only [lq1, lq2, lq3])
          obtain ⟨q1, q2, q3, q4⟩ := two_c HK3.out
          go_simp
          clear q1 q2 q3 q4
          have HE3 := Lib.hid (two_set HK3.out (.int .i64 a) (.int .i64 c))
          have HF3 := Lib.hid (two_fr r9 k3 (.int .i64 a) (.int .i64 c))
          generalize (r9.setCell ⟨k3, 0, none⟩ (.int .i64 a)).setCell ⟨k3, 1, none⟩ (.int .i64 c) = s3 at HE3 HF3 ⊢
          refine hK.out _ _ (five_c (HF3.out.blk HA9.out.box (by omega))) (fun hHeld => ?_)
          clear hK K
          (try simp only [Act.put, lq1, lq2, lq3, lq4, lq5, lq6])
          refine rdO (i := 7) (fun K hK => ?_)
          (try simp only [lq1, lq2, lq3])
          have HK4' := Lib.hid (HF3.out.blk HK4.out fun e => hne e.symm)
          obtain ⟨q1, q2, q3, q4⟩ := two_c HK4'.out
          go_simp
          clear q1 q2 q3 q4
          have HE4 := Lib.hid (two_set HK4'.out (.int .i64 ua) (.int .i64 ub))
          have HF4 := Lib.hid (two_fr s3 k4 (.int .i64 ua) (.int .i64 ub))
          generalize (s3.setCell ⟨k4, 0, none⟩ (.int .i64 ua)).setCell ⟨k4, 1, none⟩ (.int .i64 ub) = s4 at HE4 HF4 ⊢
          refine hK.out _ _ (five_c (HF4.out.blk (HF3.out.blk HA9.out.box (by omega)) (by omega))) (fun hHeld => ?_)
          clear hK K
          (try simp only [Act.put, lq1, lq2, lq3, lq4, lq5, lq6])
          refine wpAnyH_done (by kernel_rfl) ?_ _
          go_wp2
          go_meet
          exact ⟨k3, k4, rfl, rfl, Lib.hid (HF4.out.blk HE3.out hne), HE4, Lib.hid ((HA9.out.new.next HF3.out fun i hi => .inr (by omega)).next HF4.out fun i hi => .inr (by omega)), Lib.hid (HF4.out.blk (HF3.out.blk HA9.out.res (by omega)) (by omega))⟩
        · skip
          (try simp only [lq1, lq2, lq3])
          go_simp
          have h7 := HA7.out.a4
          obtain ⟨k4, Hk4⟩ : ∃ z, Hid (z = r7.heap.size) := ⟨_, Lib.hid rfl⟩
          rw [← Hk4.out] at h7 ⊢
          generalize r7.alloc (.cells #[.int .i64 0, .int .i64 0] 93) = r10 at h7 ⊢
          have HA10 := Lib.hid h7
          clear h7
          refine hK.out _ _ (five_c HA10.out.box) (fun hHeld => ?_)
          clear hK K
          (try simp only [Act.put, lq1, lq2, lq3, lq4, lq5, lq6])
          refine wpAnyH_ready (rs := [3]) (by kernel_rfl) (by simp) ?_
          refine AllReadyH.cons rfl (fun K hK => ?_) AllReadyH.nil
          (try simp only [lq1, lq2, lq3])
          go_simp
          refine (above_any ⟨a, b, c, d, p⟩ _).mono ?_
          rintro e r11 ⟨rfl, hF⟩
          rw [HUA.out, HUB.out]
          have HA11 := Lib.hid (HA10.out.nw hF)
          clear hF
          go_wp2_with fail
          refine hK.out _ _ (five_c HA11.out.box) (fun hHeld => ?_)
          clear hK K
          (try simp only [Act.put, lq1, lq2, lq3, lq4, lq5, lq6])
          have hk3 := (HA11.out.c3 _ rfl)
          have hk4 := (HA11.out.c4 _ rfl)
          have hne := HA11.out.ne _ _ rfl rfl
          have HK3 := Lib.hid hk3.2
          have HK4 := Lib.hid hk4.2
          have l3 := hk3.1
          have l4 := hk4.1
          clear hk3 hk4
          refine rdO (i := 6) (fun K hK => ?_)
          (try simp only [lq1, lq2, lq3])
          obtain ⟨q1, q2, q3, q4⟩ := two_c HK3.out
          go_simp
          clear q1 q2 q3 q4
          have HE3 := Lib.hid (two_set HK3.out (.int .i64 a) (.int .i64 c))
          have HF3 := Lib.hid (two_fr r11 k3 (.int .i64 a) (.int .i64 c))
          generalize (r11.setCell ⟨k3, 0, none⟩ (.int .i64 a)).setCell ⟨k3, 1, none⟩ (.int .i64 c) = s3 at HE3 HF3 ⊢
          refine hK.out _ _ (five_c (HF3.out.blk HA11.out.box (by omega))) (fun hHeld => ?_)
          clear hK K
          (try simp only [Act.put, lq1, lq2, lq3, lq4, lq5, lq6])
          refine rdO (i := 7) (fun K hK => ?_)
          (try simp only [lq1, lq2, lq3])
          have HK4' := Lib.hid (HF3.out.blk HK4.out fun e => hne e.symm)
          obtain ⟨q1, q2, q3, q4⟩ := two_c HK4'.out
          go_simp
          clear q1 q2 q3 q4
          have HE4 := Lib.hid (two_set HK4'.out (.int .i64 ua) (.int .i64 ub))
          have HF4 := Lib.hid (two_fr s3 k4 (.int .i64 ua) (.int .i64 ub))
          generalize (s3.setCell ⟨k4, 0, none⟩ (.int .i64 ua)).setCell ⟨k4, 1, none⟩ (.int .i64 ub) = s4 at HE4 HF4 ⊢
          refine hK.out _ _ (five_c (HF4.out.blk (HF3.out.blk HA11.out.box (by omega)) (by omega))) (fun hHeld => ?_)
          clear hK K
          (try simp only [Act.put, lq1, lq2, lq3, lq4, lq5, lq6])
          refine wpAnyH_done (by kernel_rfl) ?_ _
          go_wp2
          go_meet
          exact ⟨k3, k4, rfl, rfl, Lib.hid (HF4.out.blk HE3.out hne), HE4, Lib.hid ((HA11.out.new.next HF3.out fun i hi => .inr (by omega)).next HF4.out fun i hi => .inr (by omega)), Lib.hid (HF4.out.blk (HF3.out.blk HA11.out.res (by omega)) (by omega))⟩
      · skip
        (try simp only [lq1, lq2, lq3])
        go_simp
        have h7 := HA1.out.a4
        obtain ⟨k4, Hk4⟩ : ∃ z, Hid (z = r1.heap.size) := ⟨_, Lib.hid rfl⟩
        rw [← Hk4.out] at h7 ⊢
        generalize r1.alloc (.cells #[.int .i64 0, .int .i64 0] 93) = r12 at h7 ⊢
        have HA12 := Lib.hid h7
        clear h7
        refine hK.out _ _ (five_c HA12.out.box) (fun hHeld => ?_)
        clear hK K
        (try simp only [Act.put, lq1, lq2, lq3, lq4, lq5, lq6])
        refine wpAnyH_ready (rs := [3, 4]) (by kernel_rfl) (by simp) ?_
        refine AllReadyH.cons rfl (fun K hK => ?_) (AllReadyH.cons rfl (fun K hK => ?_) AllReadyH.nil)
        · skip
          (try simp only [lq1, lq2, lq3])
          go_simp
          refine (above_any ⟨a, b, c, d, p⟩ _).mono ?_
          rintro e r13 ⟨rfl, hF⟩
          rw [HUA.out, HUB.out]
          have HA13 := Lib.hid (HA12.out.nw hF)
          clear hF
          go_wp2_with fail
          refine hK.out _ _ (five_c HA13.out.box) (fun hHeld => ?_)
          clear hK K
          (try simp only [Act.put, lq1, lq2, lq3, lq4, lq5, lq6])
          refine wpAnyH_ready (rs := [4]) (by kernel_rfl) (by simp) ?_
          refine AllReadyH.cons rfl (fun K hK => ?_) AllReadyH.nil
          (try simp only [lq1, lq2, lq3])
          go_simp
          have h7 := HA13.out.a3
          obtain ⟨k3, Hk3⟩ : ∃ z, Hid (z = r13.heap.size) := ⟨_, Lib.hid rfl⟩
          rw [← Hk3.out] at h7 ⊢
          generalize r13.alloc (.cells #[.int .i64 0, .int .i64 0] 93) = r14 at h7 ⊢
          have HA14 := Lib.hid h7
          clear h7
          refine hK.out _ _ (five_c HA14.out.box) (fun hHeld => ?_)
          clear hK K
          (try simp only [Act.put, lq1, lq2, lq3, lq4, lq5, lq6])
          have hk3 := (HA14.out.c3 _ rfl)
          have hk4 := (HA14.out.c4 _ rfl)
          have hne := HA14.out.ne _ _ rfl rfl
          have HK3 := Lib.hid hk3.2
          have HK4 := Lib.hid hk4.2
          have l3 := hk3.1
          have l4 := hk4.1
          clear hk3 hk4
          refine rdO (i := 6) (fun K hK => ?_)
          (try simp only [lq1, lq2, lq3])
          obtain ⟨q1, q2, q3, q4⟩ := two_c HK3.out
          go_simp
          clear q1 q2 q3 q4
          have HE3 := Lib.hid (two_set HK3.out (.int .i64 a) (.int .i64 c))
          have HF3 := Lib.hid (two_fr r14 k3 (.int .i64 a) (.int .i64 c))
          generalize (r14.setCell ⟨k3, 0, none⟩ (.int .i64 a)).setCell ⟨k3, 1, none⟩ (.int .i64 c) = s3 at HE3 HF3 ⊢
          refine hK.out _ _ (five_c (HF3.out.blk HA14.out.box (by omega))) (fun hHeld => ?_)
          clear hK K
          (try simp only [Act.put, lq1, lq2, lq3, lq4, lq5, lq6])
          refine rdO (i := 7) (fun K hK => ?_)
          (try simp only [lq1, lq2, lq3])
          have HK4' := Lib.hid (HF3.out.blk HK4.out fun e => hne e.symm)
          obtain ⟨q1, q2, q3, q4⟩ := two_c HK4'.out
          go_simp
          clear q1 q2 q3 q4
          have HE4 := Lib.hid (two_set HK4'.out (.int .i64 ua) (.int .i64 ub))
          have HF4 := Lib.hid (two_fr s3 k4 (.int .i64 ua) (.int .i64 ub))
          generalize (s3.setCell ⟨k4, 0, none⟩ (.int .i64 ua)).setCell ⟨k4, 1, none⟩ (.int .i64 ub) = s4 at HE4 HF4 ⊢
          refine hK.out _ _ (five_c (HF4.out.blk (HF3.out.blk HA14.out.box (by omega)) (by omega))) (fun hHeld => ?_)
          clear hK K
          (try simp only [Act.put, lq1, lq2, lq3, lq4, lq5, lq6])
          refine wpAnyH_done (by kernel_rfl) ?_ _
          go_wp2
          go_meet
          exact ⟨k3, k4, rfl, rfl, Lib.hid (HF4.out.blk HE3.out hne), HE4, Lib.hid ((HA14.out.new.next HF3.out fun i hi => .inr (by omega)).next HF4.out fun i hi => .inr (by omega)), Lib.hid (HF4.out.blk (HF3.out.blk HA14.out.res (by omega)) (by omega))⟩
        · skip
          (try simp only [lq1, lq2, lq3])
          go_simp
          have h7 := HA12.out.a3
          obtain ⟨k3, Hk3⟩ : ∃ z, Hid (z = r12.heap.size) := ⟨_, Lib.hid rfl⟩
          rw [← Hk3.out] at h7 ⊢
          generalize r12.alloc (.cells #[.int .i64 0, .int .i64 0] 93) = r15 at h7 ⊢
          have HA15 := Lib.hid h7
          clear h7
          refine hK.out _ _ (five_c HA15.out.box) (fun hHeld => ?_)
          clear hK K
          (try simp only [Act.put, lq1, lq2, lq3, lq4, lq5, lq6])
          refine wpAnyH_ready (rs := [3]) (by kernel_rfl) (by simp) ?_
          refine AllReadyH.cons rfl (fun K hK => ?_) AllReadyH.nil
          (try simp only [lq1, lq2, lq3])
          go_simp
          refine (above_any ⟨a, b, c, d, p⟩ _).mono ?_
          rintro e r16 ⟨rfl, hF⟩
          rw [HUA.out, HUB.out]
          have HA16 := Lib.hid (HA15.out.nw hF)
          clear hF
          go_wp2_with fail
          refine hK.out _ _ (five_c HA16.out.box) (fun hHeld => ?_)
          clear hK K
          (try simp only [Act.put, lq1, lq2, lq3, lq4, lq5, lq6])
          have hk3 := (HA16.out.c3 _ rfl)
          have hk4 := (HA16.out.c4 _ rfl)
          have hne := HA16.out.ne _ _ rfl rfl
          have HK3 := Lib.hid hk3.2
          have HK4 := Lib.hid hk4.2
          have l3 := hk3.1
          have l4 := hk4.1
          clear hk3 hk4
          refine rdO (i := 6) (fun K hK => ?_)
          (try simp only [lq1, lq2, lq3])
          obtain ⟨q1, q2, q3, q4⟩ := two_c HK3.out
          go_simp
          clear q1 q2 q3 q4
          have HE3 := Lib.hid (two_set HK3.out (.int .i64 a) (.int .i64 c))
          have HF3 := Lib.hid (two_fr r16 k3 (.int .i64 a) (.int .i64 c))
          generalize (r16.setCell ⟨k3, 0, none⟩ (.int .i64 a)).setCell ⟨k3, 1, none⟩ (.int .i64 c) = s3 at HE3 HF3 ⊢
          refine hK.out _ _ (five_c (HF3.out.blk HA16.out.box (by omega))) (fun hHeld => ?_)
          clear hK K
          (try simp only [Act.put, lq1, lq2, lq3, lq4, lq5, lq6])
          refine rdO (i := 7) (fun K hK => ?_)
          (try simp only [lq1, lq2, lq3])
          have HK4' := Lib.hid (HF3.out.blk HK4.out fun e => hne e.symm)
          obtain ⟨q1, q2, q3, q4⟩ := two_c HK4'.out
          go_simp
          clear q1 q2 q3 q4
          have HE4 := Lib.hid (two_set HK4'.out (.int .i64 ua) (.int .i64 ub))
          have HF4 := Lib.hid (two_fr s3 k4 (.int .i64 ua) (.int .i64 ub))
          generalize (s3.setCell ⟨k4, 0, none⟩ (.int .i64 ua)).setCell ⟨k4, 1, none⟩ (.int .i64 ub) = s4 at HE4 HF4 ⊢
          refine hK.out _ _ (five_c (HF4.out.blk (HF3.out.blk HA16.out.box (by omega)) (by omega))) (fun hHeld => ?_)
          clear hK K
          (try simp only [Act.put, lq1, lq2, lq3, lq4, lq5, lq6])
          refine wpAnyH_done (by kernel_rfl) ?_ _
          go_wp2
          go_meet
          exact ⟨k3, k4, rfl, rfl, Lib.hid (HF4.out.blk HE3.out hne), HE4, Lib.hid ((HA16.out.new.next HF3.out fun i hi => .inr (by omega)).next HF4.out fun i hi => .inr (by omega)), Lib.hid (HF4.out.blk (HF3.out.blk HA16.out.res (by omega)) (by omega))⟩
    · skip
      (try simp only [lq1, lq2, lq3])
      go_simp
      have h7 := HA0.out.a3
      obtain ⟨k3, Hk3⟩ : ∃ z, Hid (z = r0.heap.size) := ⟨_, Lib.hid rfl⟩
      rw [← Hk3.out] at h7 ⊢
      generalize r0.alloc (.cells #[.int .i64 0, .int .i64 0] 93) = r17 at h7 ⊢
      have HA17 := Lib.hid h7
      clear h7
      refine hK.out _ _ (five_c HA17.out.box) (fun hHeld => ?_)
      clear hK K
      (try simp only [Act.put, lq1, lq2, lq3, lq4, lq5, lq6])
      refine wpAnyH_ready (rs := [1, 5]) (by kernel_rfl) (by simp) ?_
      refine AllReadyH.cons rfl (fun K hK => ?_) (AllReadyH.cons rfl (fun K hK => ?_) AllReadyH.nil)
      · skip
        (try simp only [lq1, lq2, lq3])
        go_simp
        refine (below_any ⟨a, b, c, d, p⟩ _).mono ?_
        rintro e r18 ⟨rfl, hF⟩
        have HA18 := Lib.hid (HA17.out.nw hF)
        clear hF
        go_wp2_with fail
        refine hK.out _ _ (five_c HA18.out.box) (fun hHeld => ?_)
        clear hK K
        (try simp only [Act.put, lq1, lq2, lq3, lq4, lq5, lq6])
        refine wpAnyH_ready (rs := [3, 5]) (by kernel_rfl) (by simp) ?_
        refine AllReadyH.cons rfl (fun K hK => ?_) (AllReadyH.cons rfl (fun K hK => ?_) AllReadyH.nil)
        · skip
          (try simp only [lq1, lq2, lq3])
          go_simp
          refine (above_any ⟨a, b, c, d, p⟩ _).mono ?_
          rintro e r19 ⟨rfl, hF⟩
          rw [HUA.out, HUB.out]
          have HA19 := Lib.hid (HA18.out.nw hF)
          clear hF
          go_wp2_with fail
          refine hK.out _ _ (five_c HA19.out.box) (fun hHeld => ?_)
          clear hK K
          (try simp only [Act.put, lq1, lq2, lq3, lq4, lq5, lq6])
          refine wpAnyH_ready (rs := [5]) (by kernel_rfl) (by simp) ?_
          refine AllReadyH.cons rfl (fun K hK => ?_) AllReadyH.nil
          (try simp only [lq1, lq2, lq3])
          go_simp
          have h7 := HA19.out.a4
          obtain ⟨k4, Hk4⟩ : ∃ z, Hid (z = r19.heap.size) := ⟨_, Lib.hid rfl⟩
          rw [← Hk4.out] at h7 ⊢
          generalize r19.alloc (.cells #[.int .i64 0, .int .i64 0] 93) = r20 at h7 ⊢
          have HA20 := Lib.hid h7
          clear h7
          refine hK.out _ _ (five_c HA20.out.box) (fun hHeld => ?_)
          clear hK K
          (try simp only [Act.put, lq1, lq2, lq3, lq4, lq5, lq6])
          have hk3 := (HA20.out.c3 _ rfl)
          have hk4 := (HA20.out.c4 _ rfl)
          have hne := HA20.out.ne _ _ rfl rfl
          have HK3 := Lib.hid hk3.2
          have HK4 := Lib.hid hk4.2
          have l3 := hk3.1
          have l4 := hk4.1
          clear hk3 hk4
          refine rdO (i := 6) (fun K hK => ?_)
          (try simp only [lq1, lq2, lq3])
          obtain ⟨q1, q2, q3, q4⟩ := two_c HK3.out
          go_simp
          clear q1 q2 q3 q4
          have HE3 := Lib.hid (two_set HK3.out (.int .i64 a) (.int .i64 c))
          have HF3 := Lib.hid (two_fr r20 k3 (.int .i64 a) (.int .i64 c))
          generalize (r20.setCell ⟨k3, 0, none⟩ (.int .i64 a)).setCell ⟨k3, 1, none⟩ (.int .i64 c) = s3 at HE3 HF3 ⊢
          refine hK.out _ _ (five_c (HF3.out.blk HA20.out.box (by omega))) (fun hHeld => ?_)
          clear hK K
          (try simp only [Act.put, lq1, lq2, lq3, lq4, lq5, lq6])
          refine rdO (i := 7) (fun K hK => ?_)
          (try simp only [lq1, lq2, lq3])
          have HK4' := Lib.hid (HF3.out.blk HK4.out fun e => hne e.symm)
          obtain ⟨q1, q2, q3, q4⟩ := two_c HK4'.out
          go_simp
          clear q1 q2 q3 q4
          have HE4 := Lib.hid (two_set HK4'.out (.int .i64 ua) (.int .i64 ub))
          have HF4 := Lib.hid (two_fr s3 k4 (.int .i64 ua) (.int .i64 ub))
          generalize (s3.setCell ⟨k4, 0, none⟩ (.int .i64 ua)).setCell ⟨k4, 1, none⟩ (.int .i64 ub) = s4 at HE4 HF4 ⊢
          refine hK.out _ _ (five_c (HF4.out.blk (HF3.out.blk HA20.out.box (by omega)) (by omega))) (fun hHeld => ?_)
          clear hK K
          (try simp only [Act.put, lq1, lq2, lq3, lq4, lq5, lq6])
          refine wpAnyH_done (by kernel_rfl) ?_ _
          go_wp2
          go_meet
          exact ⟨k3, k4, rfl, rfl, Lib.hid (HF4.out.blk HE3.out hne), HE4, Lib.hid ((HA20.out.new.next HF3.out fun i hi => .inr (by omega)).next HF4.out fun i hi => .inr (by omega)), Lib.hid (HF4.out.blk (HF3.out.blk HA20.out.res (by omega)) (by omega))⟩
        · skip
          (try simp only [lq1, lq2, lq3])
          go_simp
          have h7 := HA18.out.a4
          obtain ⟨k4, Hk4⟩ : ∃ z, Hid (z = r18.heap.size) := ⟨_, Lib.hid rfl⟩
          rw [← Hk4.out] at h7 ⊢
          generalize r18.alloc (.cells #[.int .i64 0, .int .i64 0] 93) = r21 at h7 ⊢
          have HA21 := Lib.hid h7
          clear h7
          refine hK.out _ _ (five_c HA21.out.box) (fun hHeld => ?_)
          clear hK K
          (try simp only [Act.put, lq1, lq2, lq3, lq4, lq5, lq6])
          refine wpAnyH_ready (rs := [3]) (by kernel_rfl) (by simp) ?_
          refine AllReadyH.cons rfl (fun K hK => ?_) AllReadyH.nil
          (try simp only [lq1, lq2, lq3])
          go_simp
          refine (above_any ⟨a, b, c, d, p⟩ _).mono ?_
          rintro e r22 ⟨rfl, hF⟩
          rw [HUA.out, HUB.out]
          have HA22 := Lib.hid (HA21.out.nw hF)
          clear hF
          go_wp2_with fail
          refine hK.out _ _ (five_c HA22.out.box) (fun hHeld => ?_)
          clear hK K
          (try simp only [Act.put, lq1, lq2, lq3, lq4, lq5, lq6])
          have hk3 := (HA22.out.c3 _ rfl)
          have hk4 := (HA22.out.c4 _ rfl)
          have hne := HA22.out.ne _ _ rfl rfl
          have HK3 := Lib.hid hk3.2
          have HK4 := Lib.hid hk4.2
          have l3 := hk3.1
          have l4 := hk4.1
          clear hk3 hk4
          refine rdO (i := 6) (fun K hK => ?_)
          (try simp only [lq1, lq2, lq3])
          obtain ⟨q1, q2, q3, q4⟩ := two_c HK3.out
          go_simp
          clear q1 q2 q3 q4
          have HE3 := Lib.hid (two_set HK3.out (.int .i64 a) (.int .i64 c))
          have HF3 := Lib.hid (two_fr r22 k3 (.int .i64 a) (.int .i64 c))
          generalize (r22.setCell ⟨k3, 0, none⟩ (.int .i64 a)).setCell ⟨k3, 1, none⟩ (.int .i64 c) = s3 at HE3 HF3 ⊢
          refine hK.out _ _ (five_c (HF3.out.blk HA22.out.box (by omega))) (fun hHeld => ?_)
          clear hK K
          (try simp only [Act.put, lq1, lq2, lq3, lq4, lq5, lq6])
          refine rdO (i := 7) (fun K hK => ?_)
          (try simp only [lq1, lq2, lq3])
          have HK4' := Lib.hid (HF3.out.blk HK4.out fun e => hne e.symm)
          obtain ⟨q1, q2, q3, q4⟩ := two_c HK4'.out
          go_simp
          clear q1 q2 q3 q4
          have HE4 := Lib.hid (two_set HK4'.out (.int .i64 ua) (.int .i64 ub))
          have HF4 := Lib.hid (two_fr s3 k4 (.int .i64 ua) (.int .i64 ub))
          generalize (s3.setCell ⟨k4, 0, none⟩ (.int .i64 ua)).setCell ⟨k4, 1, none⟩ (.int .i64 ub) = s4 at HE4 HF4 ⊢
          refine hK.out _ _ (five_c (HF4.out.blk (HF3.out.blk HA22.out.box (by omega)) (by omega))) (fun hHeld => ?_)
          clear hK K
          (try simp only [Act.put, lq1, lq2, lq3, lq4, lq5, lq6])
          refine wpAnyH_done (by kernel_rfl) ?_ _
          go_wp2
          go_meet
          exact ⟨k3, k4, rfl, rfl, Lib.hid (HF4.out.blk HE3.out hne), HE4, Lib.hid ((HA22.out.new.next HF3.out fun i hi => .inr (by omega)).next HF4.out fun i hi => .inr (by omega)), Lib.hid (HF4.out.blk (HF3.out.blk HA22.out.res (by omega)) (by omega))⟩
      · skip
        (try simp only [lq1, lq2, lq3])
        go_simp
        have h7 := HA17.out.a4
        obtain ⟨k4, Hk4⟩ : ∃ z, Hid (z = r17.heap.size) := ⟨_, Lib.hid rfl⟩
        rw [← Hk4.out] at h7 ⊢
        generalize r17.alloc (.cells #[.int .i64 0, .int .i64 0] 93) = r23 at h7 ⊢
        have HA23 := Lib.hid h7
        clear h7
        refine hK.out _ _ (five_c HA23.out.box) (fun hHeld => ?_)
        clear hK K
        (try simp only [Act.put, lq1, lq2, lq3, lq4, lq5, lq6])
        refine wpAnyH_ready (rs := [1]) (by kernel_rfl) (by simp) ?_
        refine AllReadyH.cons rfl (fun K hK => ?_) AllReadyH.nil
        (try simp only [lq1, lq2, lq3])
        go_simp
        refine (below_any ⟨a, b, c, d, p⟩ _).mono ?_
        rintro e r24 ⟨rfl, hF⟩
        have HA24 := Lib.hid (HA23.out.nw hF)
        clear hF
        go_wp2_with fail
        refine hK.out _ _ (five_c HA24.out.box) (fun hHeld => ?_)
        clear hK K
        (try simp only [Act.put, lq1, lq2, lq3, lq4, lq5, lq6])
        refine wpAnyH_ready (rs := [3]) (by kernel_rfl) (by simp) ?_
        refine AllReadyH.cons rfl (fun K hK => ?_) AllReadyH.nil
        (try simp only [lq1, lq2, lq3])
        go_simp
        refine (above_any ⟨a, b, c, d, p⟩ _).mono ?_
        rintro e r25 ⟨rfl, hF⟩
        rw [HUA.out, HUB.out]
        have HA25 := Lib.hid (HA24.out.nw hF)
        clear hF
        go_wp2_with fail
        refine hK.out _ _ (five_c HA25.out.box) (fun hHeld => ?_)
        clear hK K
        (try simp only [Act.put, lq1, lq2, lq3, lq4, lq5, lq6])
        have hk3 := (HA25.out.c3 _ rfl)
        have hk4 := (HA25.out.c4 _ rfl)
        have hne := HA25.out.ne _ _ rfl rfl
        have HK3 := Lib.hid hk3.2
        have HK4 := Lib.hid hk4.2
        have l3 := hk3.1
        have l4 := hk4.1
        clear hk3 hk4
        refine rdO (i := 6) (fun K hK => ?_)
        (try simp only [lq1, lq2, lq3])
        obtain ⟨q1, q2, q3, q4⟩ := two_c HK3.out
        go_simp
        clear q1 q2 q3 q4
        have HE3 := Lib.hid (two_set HK3.out (.int .i64 a) (.int .i64 c))
        have HF3 := Lib.hid (two_fr r25 k3 (.int .i64 a) (.int .i64 c))
        generalize (r25.setCell ⟨k3, 0, none⟩ (.int .i64 a)).setCell ⟨k3, 1, none⟩ (.int .i64 c) = s3 at HE3 HF3 ⊢
        refine hK.out _ _ (five_c (HF3.out.blk HA25.out.box (by omega))) (fun hHeld => ?_)
        clear hK K
        (try simp only [Act.put, lq1, lq2, lq3, lq4, lq5, lq6])
        refine rdO (i := 7) (fun K hK => ?_)
        (try simp only [lq1, lq2, lq3])
        have HK4' := Lib.hid (HF3.out.blk HK4.out fun e => hne e.symm)
        obtain ⟨q1, q2, q3, q4⟩ := two_c HK4'.out
        go_simp
        clear q1 q2 q3 q4
        have HE4 := Lib.hid (two_set HK4'.out (.int .i64 ua) (.int .i64 ub))
        have HF4 := Lib.hid (two_fr s3 k4 (.int .i64 ua) (.int .i64 ub))
        generalize (s3.setCell ⟨k4, 0, none⟩ (.int .i64 ua)).setCell ⟨k4, 1, none⟩ (.int .i64 ub) = s4 at HE4 HF4 ⊢
        refine hK.out _ _ (five_c (HF4.out.blk (HF3.out.blk HA25.out.box (by omega)) (by omega))) (fun hHeld => ?_)
        clear hK K
        (try simp only [Act.put, lq1, lq2, lq3, lq4, lq5, lq6])
        refine wpAnyH_done (by kernel_rfl) ?_ _
        go_wp2
        go_meet
        exact ⟨k3, k4, rfl, rfl, Lib.hid (HF4.out.blk HE3.out hne), HE4, Lib.hid ((HA25.out.new.next HF3.out fun i hi => .inr (by omega)).next HF4.out fun i hi => .inr (by omega)), Lib.hid (HF4.out.blk (HF3.out.blk HA25.out.res (by omega)) (by omega))⟩
    · skip
      (try simp only [lq1, lq2, lq3])
      go_simp
      have h7 := HA0.out.a4
      obtain ⟨k4, Hk4⟩ : ∃ z, Hid (z = r0.heap.size) := ⟨_, Lib.hid rfl⟩
      rw [← Hk4.out] at h7 ⊢
      generalize r0.alloc (.cells #[.int .i64 0, .int .i64 0] 93) = r26 at h7 ⊢
      have HA26 := Lib.hid h7
      clear h7
      refine hK.out _ _ (five_c HA26.out.box) (fun hHeld => ?_)
      clear hK K
      (try simp only [Act.put, lq1, lq2, lq3, lq4, lq5, lq6])
      refine wpAnyH_ready (rs := [1, 4]) (by kernel_rfl) (by simp) ?_
      refine AllReadyH.cons rfl (fun K hK => ?_) (AllReadyH.cons rfl (fun K hK => ?_) AllReadyH.nil)
      · skip
        (try simp only [lq1, lq2, lq3])
        go_simp
        refine (below_any ⟨a, b, c, d, p⟩ _).mono ?_
        rintro e r27 ⟨rfl, hF⟩
        have HA27 := Lib.hid (HA26.out.nw hF)
        clear hF
        go_wp2_with fail
        refine hK.out _ _ (five_c HA27.out.box) (fun hHeld => ?_)
        clear hK K
        (try simp only [Act.put, lq1, lq2, lq3, lq4, lq5, lq6])
        refine wpAnyH_ready (rs := [3, 4]) (by kernel_rfl) (by simp) ?_
        refine AllReadyH.cons rfl (fun K hK => ?_) (AllReadyH.cons rfl (fun K hK => ?_) AllReadyH.nil)
        · skip
          (try simp only [lq1, lq2, lq3])
          go_simp
          refine (above_any ⟨a, b, c, d, p⟩ _).mono ?_
          rintro e r28 ⟨rfl, hF⟩
          rw [HUA.out, HUB.out]
          have HA28 := Lib.hid (HA27.out.nw hF)
          clear hF
          go_wp2_with fail
          refine hK.out _ _ (five_c HA28.out.box) (fun hHeld => ?_)
          clear hK K
          (try simp only [Act.put, lq1, lq2, lq3, lq4, lq5, lq6])
          refine wpAnyH_ready (rs := [4]) (by kernel_rfl) (by simp) ?_
          refine AllReadyH.cons rfl (fun K hK => ?_) AllReadyH.nil
          (try simp only [lq1, lq2, lq3])
          go_simp
          have h7 := HA28.out.a3
          obtain ⟨k3, Hk3⟩ : ∃ z, Hid (z = r28.heap.size) := ⟨_, Lib.hid rfl⟩
          rw [← Hk3.out] at h7 ⊢
          generalize r28.alloc (.cells #[.int .i64 0, .int .i64 0] 93) = r29 at h7 ⊢
          have HA29 := Lib.hid h7
          clear h7
          refine hK.out _ _ (five_c HA29.out.box) (fun hHeld => ?_)
          clear hK K
          (try simp only [Act.put, lq1, lq2, lq3, lq4, lq5, lq6])
          have hk3 := (HA29.out.c3 _ rfl)
          have hk4 := (HA29.out.c4 _ rfl)
          have hne := HA29.out.ne _ _ rfl rfl
          have HK3 := Lib.hid hk3.2
          have HK4 := Lib.hid hk4.2
          have l3 := hk3.1
          have l4 := hk4.1
          clear hk3 hk4
          refine rdO (i := 6) (fun K hK => ?_)
          (try simp only [lq1, lq2, lq3])
          obtain ⟨q1, q2, q3, q4⟩ := two_c HK3.out
          go_simp
          clear q1 q2 q3 q4
          have HE3 := Lib.hid (two_set HK3.out (.int .i64 a) (.int .i64 c))
          have HF3 := Lib.hid (two_fr r29 k3 (.int .i64 a) (.int .i64 c))
          generalize (r29.setCell ⟨k3, 0, none⟩ (.int .i64 a)).setCell ⟨k3, 1, none⟩ (.int .i64 c) = s3 at HE3 HF3 ⊢
          refine hK.out _ _ (five_c (HF3.out.blk HA29.out.box (by omega))) (fun hHeld => ?_)
          clear hK K
          (try simp only [Act.put, lq1, lq2, lq3, lq4, lq5, lq6])
          refine rdO (i := 7) (fun K hK => ?_)
          (try simp only [lq1, lq2, lq3])
          have HK4' := Lib.hid (HF3.out.blk HK4.out fun e => hne e.symm)
          obtain ⟨q1, q2, q3, q4⟩ := two_c HK4'.out
          go_simp
          clear q1 q2 q3 q4
          have HE4 := Lib.hid (two_set HK4'.out (.int .i64 ua) (.int .i64 ub))
          have HF4 := Lib.hid (two_fr s3 k4 (.int .i64 ua) (.int .i64 ub))
          generalize (s3.setCell ⟨k4, 0, none⟩ (.int .i64 ua)).setCell ⟨k4, 1, none⟩ (.int .i64 ub) = s4 at HE4 HF4 ⊢
          refine hK.out _ _ (five_c (HF4.out.blk (HF3.out.blk HA29.out.box (by omega)) (by omega))) (fun hHeld => ?_)
          clear hK K
          (try simp only [Act.put, lq1, lq2, lq3, lq4, lq5, lq6])
          refine wpAnyH_done (by kernel_rfl) ?_ _
          go_wp2
          go_meet
          exact ⟨k3, k4, rfl, rfl, Lib.hid (HF4.out.blk HE3.out hne), HE4, Lib.hid ((HA29.out.new.next HF3.out fun i hi => .inr (by omega)).next HF4.out fun i hi => .inr (by omega)), Lib.hid (HF4.out.blk (HF3.out.blk HA29.out.res (by omega)) (by omega))⟩
        · skip
          (try simp only [lq1, lq2, lq3])
          go_simp
          have h7 := HA27.out.a3
          obtain ⟨k3, Hk3⟩ : ∃ z, Hid (z = r27.heap.size) := ⟨_, Lib.hid rfl⟩
          rw [← Hk3.out] at h7 ⊢
          generalize r27.alloc (.cells #[.int .i64 0, .int .i64 0] 93) = r30 at h7 ⊢
          have HA30 := Lib.hid h7
          clear h7
          refine hK.out _ _ (five_c HA30.out.box) (fun hHeld => ?_)
          clear hK K
          (try simp only [Act.put, lq1, lq2, lq3, lq4, lq5, lq6])
          refine wpAnyH_ready (rs := [3]) (by kernel_rfl) (by simp) ?_
          refine AllReadyH.cons rfl (fun K hK => ?_) AllReadyH.nil
          (try simp only [lq1, lq2, lq3])
          go_simp
          refine (above_any ⟨a, b, c, d, p⟩ _).mono ?_
          rintro e r31 ⟨rfl, hF⟩
          rw [HUA.out, HUB.out]
          have HA31 := Lib.hid (HA30.out.nw hF)
          clear hF
          go_wp2_with fail
          refine hK.out _ _ (five_c HA31.out.box) (fun hHeld => ?_)
          clear hK K
          (try simp only [Act.put, lq1, lq2, lq3, lq4, lq5, lq6])
          have hk3 := (HA31.out.c3 _ rfl)
          have hk4 := (HA31.out.c4 _ rfl)
          have hne := HA31.out.ne _ _ rfl rfl
          have HK3 := Lib.hid hk3.2
          have HK4 := Lib.hid hk4.2
          have l3 := hk3.1
          have l4 := hk4.1
          clear hk3 hk4
          refine rdO (i := 6) (fun K hK => ?_)
          (try simp only [lq1, lq2, lq3])
          obtain ⟨q1, q2, q3, q4⟩ := two_c HK3.out
          go_simp
          clear q1 q2 q3 q4
          have HE3 := Lib.hid (two_set HK3.out (.int .i64 a) (.int .i64 c))
          have HF3 := Lib.hid (two_fr r31 k3 (.int .i64 a) (.int .i64 c))
          generalize (r31.setCell ⟨k3, 0, none⟩ (.int .i64 a)).setCell ⟨k3, 1, none⟩ (.int .i64 c) = s3 at HE3 HF3 ⊢
          refine hK.out _ _ (five_c (HF3.out.blk HA31.out.box (by omega))) (fun hHeld => ?_)
          clear hK K
          (try simp only [Act.put, lq1, lq2, lq3, lq4, lq5, lq6])
          refine rdO (i := 7) (fun K hK => ?_)
          (try simp only [lq1, lq2, lq3])
          have HK4' := Lib.hid (HF3.out.blk HK4.out fun e => hne e.symm)
          obtain ⟨q1, q2, q3, q4⟩ := two_c HK4'.out
          go_simp
          clear q1 q2 q3 q4
          have HE4 := Lib.hid (two_set HK4'.out (.int .i64 ua) (.int .i64 ub))
          have HF4 := Lib.hid (two_fr s3 k4 (.int .i64 ua) (.int .i64 ub))
          generalize (s3.setCell ⟨k4, 0, none⟩ (.int .i64 ua)).setCell ⟨k4, 1, none⟩ (.int .i64 ub) = s4 at HE4 HF4 ⊢
          refine hK.out _ _ (five_c (HF4.out.blk (HF3.out.blk HA31.out.box (by omega)) (by omega))) (fun hHeld => ?_)
          clear hK K
          (try simp only [Act.put, lq1, lq2, lq3, lq4, lq5, lq6])
          refine wpAnyH_done (by kernel_rfl) ?_ _
          go_wp2
          go_meet
          exact ⟨k3, k4, rfl, rfl, Lib.hid (HF4.out.blk HE3.out hne), HE4, Lib.hid ((HA31.out.new.next HF3.out fun i hi => .inr (by omega)).next HF4.out fun i hi => .inr (by omega)), Lib.hid (HF4.out.blk (HF3.out.blk HA31.out.res (by omega)) (by omega))⟩
      · skip
        (try simp only [lq1, lq2, lq3])
        go_simp
        have h7 := HA26.out.a3
        obtain ⟨k3, Hk3⟩ : ∃ z, Hid (z = r26.heap.size) := ⟨_, Lib.hid rfl⟩
        rw [← Hk3.out] at h7 ⊢
        generalize r26.alloc (.cells #[.int .i64 0, .int .i64 0] 93) = r32 at h7 ⊢
        have HA32 := Lib.hid h7
        clear h7
        refine hK.out _ _ (five_c HA32.out.box) (fun hHeld => ?_)
        clear hK K
        (try simp only [Act.put, lq1, lq2, lq3, lq4, lq5, lq6])
        refine wpAnyH_ready (rs := [1]) (by kernel_rfl) (by simp) ?_
        refine AllReadyH.cons rfl (fun K hK => ?_) AllReadyH.nil
        (try simp only [lq1, lq2, lq3])
        go_simp
        refine (below_any ⟨a, b, c, d, p⟩ _).mono ?_
        rintro e r33 ⟨rfl, hF⟩
        have HA33 := Lib.hid (HA32.out.nw hF)
        clear hF
        go_wp2_with fail
        refine hK.out _ _ (five_c HA33.out.box) (fun hHeld => ?_)
        clear hK K
        (try simp only [Act.put, lq1, lq2, lq3, lq4, lq5, lq6])
        refine wpAnyH_ready (rs := [3]) (by kernel_rfl) (by simp) ?_
        refine AllReadyH.cons rfl (fun K hK => ?_) AllReadyH.nil
        (try simp only [lq1, lq2, lq3])
        go_simp
        refine (above_any ⟨a, b, c, d, p⟩ _).mono ?_
        rintro e r34 ⟨rfl, hF⟩
        rw [HUA.out, HUB.out]
        have HA34 := Lib.hid (HA33.out.nw hF)
        clear hF
        go_wp2_with fail
        refine hK.out _ _ (five_c HA34.out.box) (fun hHeld => ?_)
        clear hK K
        (try simp only [Act.put, lq1, lq2, lq3, lq4, lq5, lq6])
        have hk3 := (HA34.out.c3 _ rfl)
        have hk4 := (HA34.out.c4 _ rfl)
        have hne := HA34.out.ne _ _ rfl rfl
        have HK3 := Lib.hid hk3.2
        have HK4 := Lib.hid hk4.2
        have l3 := hk3.1
        have l4 := hk4.1
        clear hk3 hk4
        refine rdO (i := 6) (fun K hK => ?_)
        (try simp only [lq1, lq2, lq3])
        obtain ⟨q1, q2, q3, q4⟩ := two_c HK3.out
        go_simp
        clear q1 q2 q3 q4
        have HE3 := Lib.hid (two_set HK3.out (.int .i64 a) (.int .i64 c))
        have HF3 := Lib.hid (two_fr r34 k3 (.int .i64 a) (.int .i64 c))
        generalize (r34.setCell ⟨k3, 0, none⟩ (.int .i64 a)).setCell ⟨k3, 1, none⟩ (.int .i64 c) = s3 at HE3 HF3 ⊢
        refine hK.out _ _ (five_c (HF3.out.blk HA34.out.box (by omega))) (fun hHeld => ?_)
        clear hK K
        (try simp only [Act.put, lq1, lq2, lq3, lq4, lq5, lq6])
        refine rdO (i := 7) (fun K hK => ?_)
        (try simp only [lq1, lq2, lq3])
        have HK4' := Lib.hid (HF3.out.blk HK4.out fun e => hne e.symm)
        obtain ⟨q1, q2, q3, q4⟩ := two_c HK4'.out
        go_simp
        clear q1 q2 q3 q4
        have HE4 := Lib.hid (two_set HK4'.out (.int .i64 ua) (.int .i64 ub))
        have HF4 := Lib.hid (two_fr s3 k4 (.int .i64 ua) (.int .i64 ub))
        generalize (s3.setCell ⟨k4, 0, none⟩ (.int .i64 ua)).setCell ⟨k4, 1, none⟩ (.int .i64 ub) = s4 at HE4 HF4 ⊢
        refine hK.out _ _ (five_c (HF4.out.blk (HF3.out.blk HA34.out.box (by omega)) (by omega))) (fun hHeld => ?_)
        clear hK K
        (try simp only [Act.put, lq1, lq2, lq3, lq4, lq5, lq6])
        refine wpAnyH_done (by kernel_rfl) ?_ _
        go_wp2
        go_meet
        exact ⟨k3, k4, rfl, rfl, Lib.hid (HF4.out.blk HE3.out hne), HE4, Lib.hid ((HA34.out.new.next HF3.out fun i hi => .inr (by omega)).next HF4.out fun i hi => .inr (by omega)), Lib.hid (HF4.out.blk (HF3.out.blk HA34.out.res (by omega)) (by omega))⟩
  case rest =>
    obtain ⟨k, j, rfl, rfl, HK, HJ, HN, HR⟩ := hcut
    obtain ⟨a1, a2, _, _⟩ := two_c HK.out
    obtain ⟨a3, a4, _, _⟩ := two_c HJ.out
    obtain ⟨q1, q2, q3, q4, q5, q6, q7, q8⟩ := four_c HR.out
    have HE := Lib.hid (four_set HR.out (.int .i64 a) (.int .i64 ub) (.int .i64 ua) (.int .i64 c))
    have HF := Lib.hid (four_fr wc (w.heap.size + 1) (.int .i64 a) (.int .i64 ub) (.int .i64 ua) (.int .i64 c))
    go_wp2
    obtain ⟨p1, p2, p3, p4, _⟩ := four_c HE.out
    refine bodyPost_ret (v := .agg #[.int .i64 a, .int .i64 ub, .int .i64 ua, .int .i64 c]) (by simp [results, Try.results29, go_sem, p1, p2, p3, p4]) rfl ⟨by rw [← HUA.out, ← HUB.out], HN.out.next HF.out fun i hi => .inr (by omega)⟩
end Go.Proofs.Ytlicglicfijelaa
