/- Walks: join. -/
import Derived.Test.YtcfpdeeipbekfaaT5
namespace Go.Proofs.Ytcfpdeeipbekfaa
open Go.RowKit

abbrev enA (e : Kn.En) : Array Value := #[.bool e.c, .int .i64 (e.p.1 : Nat), .int .i64 (e.p.2 : Nat), .int .i64 (e.o : Nat)]
def Two62 (w wx : World) (x y : Kn.En) (s6 s7 : Value) : Prop := ∃ B6 B7, s6 = .pointer (some ⟨B6, 0, none⟩) ∧ s7 = .pointer (some ⟨B7, 0, none⟩) ∧ New w wx ∧ wx.heap[B6]? = some (.cells (enA x) 65 (0, 0)) ∧ wx.heap[B7]? = some (.cells (enA y) 65 (0, 0))
theorem two_ab (w : World) (x y : Kn.En) : Two62 w ((w.alloc (.cells (enA x) 65)).alloc (.cells (enA y) 65)) x y (.pointer (some ⟨w.heap.size, 0, none⟩)) (.pointer (some ⟨w.heap.size + 1, 0, none⟩)) := by
  have e0 : (w.alloc (.cells (enA x) 65)).heap.size = w.heap.size + 1 := by simp
  exact ⟨_, _, rfl, rfl, ((Fr.refl _ _).alloc _).alloc _, ((Fr.refl (fun _ => False) _).alloc _).blk (heap_alloc_new w _) (fun x => x), by rw [← e0]; exact heap_alloc_new _ _⟩
theorem two_ba (w : World) (x y : Kn.En) : Two62 w ((w.alloc (.cells (enA y) 65)).alloc (.cells (enA x) 65)) x y (.pointer (some ⟨w.heap.size + 1, 0, none⟩)) (.pointer (some ⟨w.heap.size, 0, none⟩)) := by
  have e0 : (w.alloc (.cells (enA y) 65)).heap.size = w.heap.size + 1 := by simp
  exact ⟨_, _, rfl, rfl, ((Fr.refl _ _).alloc _).alloc _, by rw [← e0]; exact heap_alloc_new _ _, ((Fr.refl (fun _ => False) _).alloc _).blk (heap_alloc_new w _) (fun x => x)⟩
theorem two_drew {w wx : World} {x y : Kn.En} {s6 s7 : Value} (h : Two62 w wx x y s6 s7) : Two62 w wx.drew x y s6 s7 := by
  obtain ⟨B6, B7, h1, h2, h3, h4, h5⟩ := h
  exact ⟨B6, B7, h1, h2, h3.drew, h4, h5⟩
set_option maxRecDepth 100000 in
set_option maxHeartbeats 8000000 in
theorem join_any (B0 b mt nn j k : Nat) (v : Value) (t : Kn.Tg) (w : World) (h : TgAt B0 w b mt nn v t) (hn : nn ≤ 90000) (hE : EnsOk t) (hj : j < 4) (hk : k < 4) (hc : (Kn.en t.ends j).c = true) :
    Calls Try.prog 16 #[.pointer (some ⟨b, 0, none⟩), .int .i64 (j : Nat), .int .i64 (k : Nat)] w fun e w' => e = .returned (.tuple #[]) ∧ TgAt B0 w' b mt (nn + 2) v (t.join j k) ∧ Fr (fun k => B0 ≤ k) w w' := by
  have H := Lib.hid h
  have HE := Lib.hid hE
  obtain ⟨x, HX⟩ : ∃ z, Hid (z = Kn.en t.ends j) := ⟨_, Lib.hid rfl⟩
  obtain ⟨y, HY⟩ : ∃ z, Hid (z = Kn.en t.ends k) := ⟨_, Lib.hid rfl⟩
  obtain ⟨x0, x1, x2, x3⟩ := h.end_ hj
  obtain ⟨y0, y1, y2, y3⟩ := h.end_ hk
  rw [← HX.out] at x0 x1 x2 x3
  rw [← HY.out] at y0 y1 y2 y3
  have kb : b < w.heap.size := World.block_lt_of_cell? _ _ x0
  have kb1 : b < w.heap.size + 1 := by omega
  have kb2 : b < w.heap.size + 1 + 1 := by omega
  have i1 : (0 : Int) ≤ (j : Int) := by omega
  have i2 : (j : Int) < 4 := by omega
  have i3 : (0 : Int) ≤ (k : Int) := by omega
  have i4 : (k : Int) < 4 := by omega
  clear h hE
  go_enter Try.func16, Try.ntmps16
  go_upto_region 0 with fail
  go_cut [6, 7] (fun s6 s7 wx => Hid (Two62 w wx x y s6 s7))
  case first =>
    go_region
    all_goals (go_wp2_with fail)
    all_goals go_meet
    · exact Lib.hid (two_drew (two_ab w x y))
    · exact Lib.hid (two_drew (two_ba w x y))
  case rest =>
  obtain ⟨B6, B7, rfl, rfl, hN, h6, h7⟩ := Hid.out hcut
  obtain ⟨w1, rfl⟩ : ∃ w1, w1 = wc := ⟨_, rfl⟩
  have HN := Lib.hid hN
  have HT1 := Lib.hid (H.out.new hN)
  have hxc : x.c = true := by rw [HX.out]; exact hc
  obtain ⟨z0, z1, z2, z3⟩ := four_c h6
  rw [hxc] at z0
  have hco : isCo x.p := by
    have := (HE.out j hj).1
    rw [← HX.out] at this
    exact this hxc
  have HG : Hid (t.join j k = t.glue k x.p) := Lib.hid (by
    unfold Kn.Tg.join
    simp only [← HX.out]
    rw [if_pos hxc])
  have CC := Lib.hid (glue_any B0 b mt nn k x.p.1 x.p.2 v t w1 HT1.out (by omega) hk (HE.out k hk) hco)
  clear hcut hN h6 h7 x0 x1 x2 x3 y0 y1 y2 y3 kb kb1 kb2 hxc hco hc
  go_wp2_with fail
  refine CC.out.mono ?_
  rintro e w3 ⟨rfl, hT, hF⟩
  have HT3 := Lib.hid hT
  have HF3 := Lib.hid hF
  clear hT hF z0 z1 z2 z3
  go_wp2
  refine bodyPost_end (results_none rfl _ _ _) rfl ?_
  exact ⟨rfl, by rw [HG.out]; exact HT3.out, (HN.out.mono fun _ x => x.elim).trans (HF3.out.mono fun i hi => by
    rcases hi with rfl | rfl
    · exact HT1.out.lb
    · exact HT1.out.lm)⟩
end Go.Proofs.Ytcfpdeeipbekfaa
