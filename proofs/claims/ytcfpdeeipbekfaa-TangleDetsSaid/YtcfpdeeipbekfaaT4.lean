/- Walks: tie, glue. -/
import Derived.Test.YtcfpdeeipbekfaaT3
namespace Go.Proofs.Ytcfpdeeipbekfaa
open Go.RowKit

theorem five_b {W : World} {B C b t t' mt : Nat} {x y z u : Value} (h : W.heap[B]? = some (.cells #[x, y] t (0, 0))) (h' : W.heap[C]? = some (.cells #[z, u] t' (0, 0))) (hm : W.cell? ⟨b, 17, none⟩ = some (.map (some mt))) :
    W.cell? ⟨B, 0, none⟩ = some x ∧ W.cell? ⟨B, 1, none⟩ = some y ∧ W.cell? ⟨C, 0, none⟩ = some z ∧ W.cell? ⟨C, 1, none⟩ = some u ∧ W.cell? ⟨b, 17, none⟩ = some (.map (some mt)) :=
  ⟨(two_c h).1, (two_c h).2, (two_c h').1, (two_c h').2, hm⟩
set_option maxRecDepth 100000 in
set_option maxHeartbeats 4000000 in
theorem tie_any (B0 b mt nn a1 a2 c1 c2 : Nat) (v : Value) (t : Kn.Tg) (w : World) (h : TgAt B0 w b mt nn v t) (hn : nn ≤ 100000) (ha : isCo (a1, a2)) (hc : isCo (c1, c2)) :
    Calls Try.prog 39 #[.pointer (some ⟨b, 0, none⟩), .agg #[.int .i64 (a1 : Nat), .int .i64 (a2 : Nat)], .agg #[.int .i64 (c1 : Nat), .int .i64 (c2 : Nat)]] w fun e w' => e = .returned (.tuple #[]) ∧ TgAt B0 w' b mt (nn + 2) v (t.tie (a1, a2) (c1, c2)) ∧ Fr (fun k => k = mt) w w' := by
  have H := Lib.hid h
  have HA := Lib.hid ha
  have HC := Lib.hid hc
  clear h ha hc
  obtain ⟨Ba, HBA⟩ : ∃ z, Hid (z = w.heap.size) := ⟨_, Lib.hid rfl⟩
  obtain ⟨Bc, HBC⟩ : ∃ z, Hid (z = w.heap.size + 1) := ⟨_, Lib.hid rfl⟩
  obtain ⟨w2, HW2⟩ : ∃ z, Hid (z = ((w.alloc (.cells #[.int .i64 (a1 : Nat), .int .i64 (a2 : Nat)] 63)).alloc (.cells #[.int .i64 (c1 : Nat), .int .i64 (c2 : Nat)] 63)).drew) := ⟨_, Lib.hid rfl⟩
  have HN2 : Hid (New w w2) := Lib.hid (by rw [HW2.out]; exact (((Fr.refl _ _).alloc _).alloc _).drew)
  have HXA : Hid (w2.heap[Ba]? = some (.cells #[.int .i64 (a1 : Nat), .int .i64 (a2 : Nat)] 63 (0, 0))) := Lib.hid (by rw [HW2.out, HBA.out]; exact ((Fr.refl (fun _ => False) _).alloc _).blk (heap_alloc_new w _) fun x => x)
  have HXC : Hid (w2.heap[Bc]? = some (.cells #[.int .i64 (c1 : Nat), .int .i64 (c2 : Nat)] 63 (0, 0))) := Lib.hid (by
    have e0 : (w.alloc (.cells #[.int .i64 (a1 : Nat), .int .i64 (a2 : Nat)] 63)).heap.size = w.heap.size + 1 := by simp
    rw [HW2.out, HBC.out, ← e0]; exact heap_alloc_new _ _)
  have HT2 : Hid (TgAt B0 w2 b mt nn v t) := Lib.hid (H.out.new HN2.out)
  have hS := five_b HXA.out HXC.out HT2.out.rest.2.1
  obtain ⟨u1, s1, W1, W2, h1, f1, h2, m2, f2⟩ := HT2.out.tie.entry (by unfold maxLen; omega) (p := (a1, a2)) (v := (c1, c2)) HA.out
  have HT3 : Hid (TgAt B0 W2 b mt (nn + 1) v { t with ties := Kn.putT t.ties (a1, a2) (c1, c2) }) := Lib.hid (HT2.out.tied f2 m2)
  obtain ⟨u3, s3, W3, W4, h3, f3, h4, m4, f4⟩ := HT3.out.tie.entry (by unfold maxLen; omega) (p := (c1, c2)) (v := (a1, a2)) HC.out
  have HT4 : Hid (TgAt B0 W4 b mt (nn + 1 + 1) v (t.tie (a1, a2) (c1, c2))) := Lib.hid (HT3.out.tied f4 m4)
  have hne : ∀ {B x y ty : _}, w2.heap[B]? = some (.cells #[x, y] ty (0, 0)) → B ≠ mt := fun hb e => by
    obtain ⟨es, ck, hm⟩ := HT2.out.tie.block
    subst e; rw [hb] at hm; cases hm
  have e1 := hne HXA.out
  have e2 := hne HXC.out
  have e3 := HT2.out.ne
  have S1 := Lib.hid (five_b (f1.blk HXA.out e1) (f1.blk HXC.out e2) (f1.cell HT2.out.rest.2.1 e3))
  have S2 := Lib.hid (five_b (f2.blk HXA.out e1) (f2.blk HXC.out e2) (f2.cell HT2.out.rest.2.1 e3))
  have S3 := Lib.hid (five_b (f3.blk (f2.blk HXA.out e1) e1) (f3.blk (f2.blk HXC.out e2) e2) (f3.cell (f2.cell HT2.out.rest.2.1 e3) e3))
  have S4 := Lib.hid (five_b (f4.blk (f2.blk HXA.out e1) e1) (f4.blk (f2.blk HXC.out e2) e2) (f4.cell (f2.cell HT2.out.rest.2.1 e3) e3))
  have HF : Hid (Fr (fun k => k = mt) w W4) := Lib.hid (((HN2.out.mono fun _ x => x.elim).trans f2).trans f4)
  have E1 : Hid ((Instr.mapEntry 67 (.map (some mt)) (.agg #[.int .i64 (a1 : Nat), .int .i64 (a2 : Nat)])).run Try.prog w2 = .ok (.tuple #[u1, .int .i64 s1]) W1) := Lib.hid h1
  have E2 : Hid ((Instr.entryStore 67 (.map (some mt)) (.int .i64 s1) (.agg #[.int .i64 (c1 : Nat), .int .i64 (c2 : Nat)])).run Try.prog W1 = .ok () W2) := Lib.hid h2
  have E3 : Hid ((Instr.mapEntry 67 (.map (some mt)) (.agg #[.int .i64 (c1 : Nat), .int .i64 (c2 : Nat)])).run Try.prog W2 = .ok (.tuple #[u3, .int .i64 s3]) W3) := Lib.hid h3
  have E4 : Hid ((Instr.entryStore 67 (.map (some mt)) (.int .i64 s3) (.agg #[.int .i64 (a1 : Nat), .int .i64 (a2 : Nat)])).run Try.prog W3 = .ok () W4) := Lib.hid h4
  rw [HW2.out] at hS
  clear h1 h2 h3 h4 f1 f2 f3 f4 m2 m4 hne e1 e2 e3
  go_enter Try.func39, Try.ntmps39
  go_upto_region 1 with fail
  rw [← HBC.out, ← HBA.out]
  refine wp_region_held_drew (S := fun wz => wz.cell? ⟨Ba, 0, none⟩ = some (.int .i64 (a1 : Nat)) ∧ wz.cell? ⟨Ba, 1, none⟩ = some (.int .i64 (a2 : Nat)) ∧ wz.cell? ⟨Bc, 0, none⟩ = some (.int .i64 (c1 : Nat)) ∧ wz.cell? ⟨Bc, 1, none⟩ = some (.int .i64 (c2 : Nat)) ∧ wz.cell? ⟨b, 17, none⟩ = some (.map (some mt))) (by kernel_rfl) hS (fun hHeld => ?_)
  rw [← HW2.out] at hHeld ⊢
  clear hS
  refine' tkO (i := 0) ?_
  (try simp only [Act.put, lq1, lq2, lq3, lq4, lq5, lq6])
  refine' tkO (i := 1) ?_
  (try simp only [Act.put, lq1, lq2, lq3, lq4, lq5, lq6])
  refine' tkO (i := 2) ?_
  (try simp only [Act.put, lq1, lq2, lq3, lq4, lq5, lq6])
  refine' tkO (i := 3) ?_
  (try simp only [Act.put, lq1, lq2, lq3, lq4, lq5, lq6])
  refine' tkO (i := 4) ?_
  (try simp only [Act.put, lq1, lq2, lq3, lq4, lq5, lq6])
  refine' tkO (i := 5) ?_
  (try simp only [Act.put, lq1, lq2, lq3, lq4, lq5, lq6])
  refine' tkO (i := 6) ?_
  (try simp only [Act.put, lq1, lq2, lq3, lq4, lq5, lq6])
  refine' tkO (i := 7) ?_
  (try simp only [Act.put, lq1, lq2, lq3, lq4, lq5, lq6])
  refine' tkO (i := 8) ?_
  (try simp only [Act.put, lq1, lq2, lq3, lq4, lq5, lq6])
  refine' tkO (i := 9) ?_
  (try simp only [Act.put, lq1, lq2, lq3, lq4, lq5, lq6])
  refine' tkO (i := 10) ?_
  (try simp only [Act.put, lq1, lq2, lq3, lq4, lq5, lq6])
  refine' tkO (i := 11) ?_
  (try simp only [Act.put, lq1, lq2, lq3, lq4, lq5, lq6])
  refine rdO (i := 12) (fun K hK => ?_)
  (try simp only [lq1, lq2, lq3])
  have heq := E1.out
  go_simp
  clear heq
  refine hK.out _ _ S1.out (fun hHeld => ?_)
  clear hK K
  (try simp only [Act.put, lq1, lq2, lq3, lq4, lq5, lq6])
  refine' tkO (i := 13) ?_
  (try simp only [Act.put, lq1, lq2, lq3, lq4, lq5, lq6])
  refine rdO (i := 14) (fun K hK => ?_)
  (try simp only [lq1, lq2, lq3])
  have heq := E2.out
  go_simp
  clear heq
  refine hK.out _ _ S2.out (fun hHeld => ?_)
  clear hK K
  (try simp only [Act.put, lq1, lq2, lq3, lq4, lq5, lq6])
  refine rdO (i := 15) (fun K hK => ?_)
  (try simp only [lq1, lq2, lq3])
  have heq := E3.out
  go_simp
  clear heq
  refine hK.out _ _ S3.out (fun hHeld => ?_)
  clear hK K
  (try simp only [Act.put, lq1, lq2, lq3, lq4, lq5, lq6])
  refine' tkO (i := 16) ?_
  (try simp only [Act.put, lq1, lq2, lq3, lq4, lq5, lq6])
  refine rdO (i := 17) (fun K hK => ?_)
  (try simp only [lq1, lq2, lq3])
  have heq := E4.out
  go_simp
  clear heq
  refine hK.out _ _ S4.out (fun hHeld => ?_)
  clear hK K
  (try simp only [Act.put, lq1, lq2, lq3, lq4, lq5, lq6])
  refine wpAnyH_done (by kernel_rfl) ?_ _
  go_wp2
  refine bodyPost_end (results_none rfl _ _ _) rfl ?_
  exact ⟨rfl, HT4.out, HF.out⟩
theorem four_c {W : World} {B t : Nat} {a b c d : Value} (h : W.heap[B]? = some (.cells #[a, b, c, d] t (0, 0))) :
    W.cell? ⟨B, 0, none⟩ = some a ∧ W.cell? ⟨B, 1, none⟩ = some b ∧ W.cell? ⟨B, 2, none⟩ = some c ∧ W.cell? ⟨B, 3, none⟩ = some d := ⟨cell_of_row _ _ 0 _ t (0, 0) h, cell_of_row _ _ 1 _ t (0, 0) h, cell_of_row _ _ 2 _ t (0, 0) h, cell_of_row _ _ 3 _ t (0, 0) h⟩
theorem six_b {W : World} {B C t t' : Nat} {x y z u p q : Value} (h : W.heap[B]? = some (.cells #[x, y] t (0, 0))) (h' : W.heap[C]? = some (.cells #[z, u, p, q] t' (0, 0))) :
    W.cell? ⟨B, 0, none⟩ = some x ∧ W.cell? ⟨B, 1, none⟩ = some y ∧ W.cell? ⟨C, 0, none⟩ = some z ∧ W.cell? ⟨C, 1, none⟩ = some u ∧ W.cell? ⟨C, 2, none⟩ = some p ∧ W.cell? ⟨C, 3, none⟩ = some q :=
  ⟨(two_c h).1, (two_c h).2, (four_c h').1, (four_c h').2.1, (four_c h').2.2.1, (four_c h').2.2.2⟩
theorem TgAt.more {B0 b mt nn nn' : Nat} {w : World} {v : Value} {t : Kn.Tg} (h : TgAt B0 w b mt nn v t) (hn : nn ≤ nn') : TgAt B0 w b mt nn' v t :=
  ⟨h.row, h.own, by obtain ⟨D, ho, hd⟩ := h.tie; exact ⟨D, ho.mono hn, hd⟩, h.len, h.plen, h.lb, h.lm⟩
/- an end that glue and join may take -/
def enOk (t : Kn.Tg) (k : Nat) : Prop := ((Kn.en t.ends k).c = true → isCo (Kn.en t.ends k).p) ∧ ((Kn.en t.ends k).c = false → (Kn.en t.ends k).o < 4)
set_option maxRecDepth 100000 in
set_option maxHeartbeats 4000000 in
theorem glue_any (B0 b mt nn k c1 c2 : Nat) (v : Value) (t : Kn.Tg) (w : World) (h : TgAt B0 w b mt nn v t) (hn : nn ≤ 100000) (hk : k < 4) (ho : enOk t k) (hc : isCo (c1, c2)) :
    Calls Try.prog 25 #[.pointer (some ⟨b, 0, none⟩), .int .i64 (k : Nat), .agg #[.int .i64 (c1 : Nat), .int .i64 (c2 : Nat)]] w fun e w' => e = .returned (.tuple #[]) ∧ TgAt B0 w' b mt (nn + 2) v (t.glue k (c1, c2)) ∧ Fr (fun k => k = b ∨ k = mt) w w' := by
  have H := Lib.hid h
  have HC := Lib.hid hc
  have HO := Lib.hid ho
  obtain ⟨x0, x1, x2, x3⟩ := h.end_ hk
  clear h hc ho
  obtain ⟨e, HEN⟩ : ∃ e, Hid (Kn.en t.ends k = e) := ⟨_, Lib.hid rfl⟩
  rw [HEN.out] at x0 x1 x2 x3
  obtain ⟨ec, ⟨p1, p2⟩, eo⟩ := e
  simp only at x0 x1 x2 x3
  have i1 : (0 : Int) ≤ (k : Int) := by omega
  have i2 : (k : Int) < 4 := by omega
  obtain ⟨Ba, HBA⟩ : ∃ z, Hid (z = w.heap.size) := ⟨_, Lib.hid rfl⟩
  obtain ⟨Bx, HBX⟩ : ∃ z, Hid (z = w.heap.size + 1) := ⟨_, Lib.hid rfl⟩
  obtain ⟨w2, HW2⟩ : ∃ z, Hid (z = (w.alloc (.cells #[.int .i64 (c1 : Nat), .int .i64 (c2 : Nat)] 63)).alloc (.cells #[.bool ec, .int .i64 (p1 : Nat), .int .i64 (p2 : Nat), .int .i64 (eo : Nat)] 65)) := ⟨_, Lib.hid rfl⟩
  have HN2 : Hid (New w w2) := Lib.hid (by rw [HW2.out]; exact ((Fr.refl _ _).alloc _).alloc _)
  have HXA : Hid (w2.heap[Ba]? = some (.cells #[.int .i64 (c1 : Nat), .int .i64 (c2 : Nat)] 63 (0, 0))) := Lib.hid (by rw [HW2.out, HBA.out]; exact ((Fr.refl (fun _ => False) _).alloc _).blk (heap_alloc_new w _) fun x => x)
  have HYtcfpdeeipbekfaa : Hid (w2.heap[Bx]? = some (.cells #[.bool ec, .int .i64 (p1 : Nat), .int .i64 (p2 : Nat), .int .i64 (eo : Nat)] 65 (0, 0))) := Lib.hid (by
    have e0 : (w.alloc (.cells #[.int .i64 (c1 : Nat), .int .i64 (c2 : Nat)] 63)).heap.size = w.heap.size + 1 := by simp
    rw [HW2.out, HBX.out, ← e0]; exact heap_alloc_new _ _)
  have HT2 : Hid (TgAt B0 w2 b mt nn v t) := Lib.hid (H.out.new HN2.out)
  have kb : b < w.heap.size := World.block_lt_of_cell? _ _ x0
  have kb1 : b < w.heap.size + 1 := by omega
  go_enter Try.func25, Try.ntmps25
  go_upto_region 2 with fail
  rw [← HBX.out, ← HBA.out, ← HW2.out]
  clear x0 x1 x2 x3 kb kb1
  obtain ⟨y0, y1, y2, y3⟩ := four_c HYtcfpdeeipbekfaa.out
  obtain ⟨z0, z1⟩ := two_c HXA.out
  cases ec
  · have ho4 : eo < 4 := by have := HO.out.2; rw [HEN.out] at this; exact this rfl
    have HG : Hid (t.glue k (c1, c2) = t.setE eo ⟨true, (c1, c2), 0⟩) := Lib.hid (by
      unfold Kn.Tg.glue
      rw [HEN.out]; rfl)
    go_upto_region 4 with fail
    clear y0 y1 y2 y3 z0 z1
    obtain ⟨r0, HR0⟩ : ∃ z, Hid (z = w2.drew) := ⟨_, Lib.hid rfl⟩
    have HN0 : New w2 r0 := by rw [HR0.out]; exact (Fr.refl _ _).drew
    have HT0 := Lib.hid (HT2.out.new HN0)
    have HNN : Hid (New w r0) := Lib.hid (HN2.out.trans HN0)
    have hS := six_b (HN0.blk HXA.out fun x => x) (HN0.blk HYtcfpdeeipbekfaa.out fun x => x)
    have HY1 := Lib.hid (HN0.blk HXA.out fun x => x)
    have HY2 := Lib.hid (HN0.blk HYtcfpdeeipbekfaa.out fun x => x)
    have HNb1 : Hid (¬ Ba = b) := Lib.hid fun e => blk_ne HXA.out HT2.out.row (by decide) e
    have HNb2 : Hid (¬ Bx = b) := Lib.hid fun e => blk_ne HYtcfpdeeipbekfaa.out HT2.out.row (by decide) e
    rw [HR0.out] at hS
    refine wp_region_held_drew (S := fun wz => wz.cell? ⟨Ba, 0, none⟩ = some (.int .i64 (c1 : Nat)) ∧ wz.cell? ⟨Ba, 1, none⟩ = some (.int .i64 (c2 : Nat)) ∧ wz.cell? ⟨Bx, 0, none⟩ = some (.bool false) ∧ wz.cell? ⟨Bx, 1, none⟩ = some (.int .i64 (p1 : Nat)) ∧ wz.cell? ⟨Bx, 2, none⟩ = some (.int .i64 (p2 : Nat)) ∧ wz.cell? ⟨Bx, 3, none⟩ = some (.int .i64 (eo : Nat))) (by kernel_rfl) hS (fun hHeld => ?_)
    rw [← HR0.out] at hHeld ⊢
    clear hS HN0
    have j1 : (0 : Int) ≤ (eo : Int) := by omega
    have j2 : (eo : Int) < 4 := by omega
    refine' tkO (i := 0) ?_
    (try simp only [Act.put, lq1, lq2, lq3, lq4, lq5, lq6])
    refine' tkO (i := 1) ?_
    (try simp only [Act.put, lq1, lq2, lq3, lq4, lq5, lq6])
    refine' tkO (i := 2) ?_
    (try simp only [Act.put, lq1, lq2, lq3, lq4, lq5, lq6])
    refine' tkO (i := 3) ?_
    (try simp only [Act.put, lq1, lq2, lq3, lq4, lq5, lq6])
    refine' tkO (i := 4) ?_
    (try simp only [Act.put, lq1, lq2, lq3, lq4, lq5, lq6])
    refine' tkO (i := 5) ?_
    (try simp only [Act.put, lq1, lq2, lq3, lq4, lq5, lq6])
    refine' tkO (i := 6) ?_
    (try simp only [Act.put, lq1, lq2, lq3, lq4, lq5, lq6])
    refine' tkO (i := 7) ?_
    (try simp only [Act.put, lq1, lq2, lq3, lq4, lq5, lq6])
    refine rdO (i := 8) (fun K hK => ?_)
    (try simp only [lq1, lq2, lq3])
    obtain ⟨y0, y1, y2, y3⟩ := HT0.out.end_ ho4
    have f0 := HT0.out.row.frozen (eo * 4)
    have f1 := HT0.out.row.frozen (eo * 4 + 1)
    have f2 := HT0.out.row.frozen (eo * 4 + 2)
    have f3 := HT0.out.row.frozen (eo * 4 + 3)
    have HP := Lib.hid (HT0.out.put ho4 ⟨true, (c1, c2), 0⟩)
    have HFP := Lib.hid (fr_set4 r0 b eo ⟨true, (c1, c2), 0⟩)
    go_simp
    refine hK.out _ (set4 r0 b eo ⟨true, (c1, c2), 0⟩) (six_b (HFP.out.blk HY1.out HNb1.out) (HFP.out.blk HY2.out HNb2.out)) (fun hHeld => ?_)
    clear hK K
    (try simp only [Act.put, lq1, lq2, lq3, lq4, lq5, lq6])
    refine wpAnyH_done (by kernel_rfl) ?_ _
    go_wp2
    refine bodyPost_end (results_none rfl _ _ _) rfl ?_
    exact ⟨rfl, by rw [HG.out]; exact HP.out.more (by omega), ((HNN.out.mono fun _ x => x.elim).trans (HFP.out.mono fun _ x => .inl x))⟩
  · have hp : isCo (p1, p2) := by have := HO.out.1; rw [HEN.out] at this; exact this rfl
    have HG : Hid (t.glue k (c1, c2) = t.tie (p1, p2) (c1, c2)) := Lib.hid (by
      unfold Kn.Tg.glue
      rw [HEN.out]; rfl)
    have CC := Lib.hid (tie_any B0 b mt nn p1 p2 c1 c2 v t w2 HT2.out hn hp HC.out)
    go_wp2_with fail
    refine CC.out.mono ?_
    rintro e w3 ⟨rfl, hT, hF⟩
    have HT3 := Lib.hid hT
    have HF3 := Lib.hid hF
    clear hT hF y0 y1 y2 y3 z0 z1
    go_wp2
    refine bodyPost_end (results_none rfl _ _ _) rfl ?_
    exact ⟨rfl, by rw [HG.out]; exact HT3.out, (HN2.out.mono fun _ x => x.elim).trans (HF3.out.mono fun _ x => .inr x)⟩
end Go.Proofs.Ytcfpdeeipbekfaa
