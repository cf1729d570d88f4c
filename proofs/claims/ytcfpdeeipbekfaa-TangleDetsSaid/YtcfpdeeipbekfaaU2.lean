/- Walks: first, join of two ends that are tied, Link of a list. -/
import Derived.Test.YtcfpdeeipbekfaaT9
import Derived.Test.YtcfpdeeipbekfaaU1
import Derived.Test.YtcfpdeeipbekfaaMAlld
namespace Go.Proofs.Ytcfpdeeipbekfaa
open Go.RowKit

set_option maxRecDepth 100000 in
theorem first_row (mt : Nat) (cs : Array Value) (hc : cs = #[.bool false, .int .i64 0, .int .i64 0, .int .i64 1, .bool false, .int .i64 0, .int .i64 0, .int .i64 0, .bool false, .int .i64 0, .int .i64 0, .int .i64 3, .bool false, .int .i64 0, .int .i64 0, .int .i64 2, .slice none 0 0, .map (some mt), .int .i64 0]) :
    ∀ i, i < 19 → cs[i]? = some (tgF Kn.Tg.first (.slice none 0 0) mt i) := by
  intro i hi
  subst hc
  match i, hi with
  | 0, _ => rfl
  | 1, _ => rfl
  | 2, _ => rfl
  | 3, _ => rfl
  | 4, _ => rfl
  | 5, _ => rfl
  | 6, _ => rfl
  | 7, _ => rfl
  | 8, _ => rfl
  | 9, _ => rfl
  | 10, _ => rfl
  | 11, _ => rfl
  | 12, _ => rfl
  | 13, _ => rfl
  | 14, _ => rfl
  | 15, _ => rfl
  | 16, _ => rfl
  | 17, _ => rfl
  | 18, _ => rfl
  | _ + 19, h => exact absurd h (by omega)
set_option maxRecDepth 100000 in
set_option maxHeartbeats 2000000 in
theorem first_any (w : World) : Calls Try.prog 14 #[] w fun e w' => ∃ b mt, e = .returned (.pointer (some ⟨b, 0, none⟩)) ∧ TgAt w.heap.size w' b mt 0 (.slice none 0 0) Kn.Tg.first ∧ New w w' := by
  have hmm := @run_makeMap Try.prog
  go_enter Try.func14, Try.ntmps14
  go_wp2_with fail
  go_ret
  refine ⟨_, w.heap.size, rfl, ⟨⟨_, by rw [← World.size_alloc w (.map #[] 0)]; exact heap_alloc_new _ _, rfl, first_row _ _ rfl⟩, World.ownsRow_nil _ _ _ _, ((TieMap.made w).fr ((Fr.refl (fun _ => False) _).alloc _) fun x => x), rfl, rfl, by simp, Nat.le_refl _⟩, ((Fr.refl _ w).alloc _).alloc _⟩
theorem twist_ok {t : Kn.Tg} (h : EnsOk t) (hl : t.ends.length = 4) (hp : t.places.length = 4 * t.many) (hm : t.many < 16) (b a : Bool) : EnsOk (t.twist b a) ∧ (t.twist b a).many = t.many + 1 := by
  have h0 : Kn.old0 b < 4 := by cases b <;> decide
  have h1 : Kn.tied1 b < 4 := by cases b <;> decide
  obtain ⟨e1, e2⟩ := place_many t a hp
  have gl : ∀ (t : Kn.Tg) (k : Nat) (c : Kn.Pl), t.ends.length = 4 → (t.glue k c).ends.length = 4 := fun t k c h => by
    unfold Kn.Tg.glue; split
    · exact h
    · simp [h]
  have l0 : (t.place a).ends.length = 4 := hl
  have l1 := gl _ (Kn.old0 b) (t.many, 0) l0
  have l2 := gl _ 3 (t.many, Kn.tied1 b) l1
  have s1 := (EnsOk.place h a).glue l0 h0 (c := (t.many, 0)) ⟨by omega, by omega⟩
  have s2 := s1.glue l1 (k := 3) (by omega) (c := (t.many, Kn.tied1 b)) ⟨by omega, h1⟩
  have s3 := s2.setE l2 h0 (c := (t.many, Kn.old0 b)) ⟨by omega, h0⟩
  have l3 : (((t.place a).glue (Kn.old0 b) (t.many, 0)).glue 3 (t.many, Kn.tied1 b) |>.setE (Kn.old0 b) ⟨true, (t.many, Kn.old0 b), 0⟩).ends.length = 4 := by
    unfold Kn.Tg.setE; simp [l2]
  refine ⟨s3.setE l3 (k := 3) (by omega) (c := (t.many, 3)) ⟨by omega, by omega⟩, ?_⟩
  show (((t.place a).glue (Kn.old0 b) (t.many, 0)).glue 3 (t.many, Kn.tied1 b)).many = _
  rw [glue_many, glue_many, e1]
theorem first_ok : EnsOk Kn.Tg.first := by
  intro k hk
  match k, hk with
  | 0, _ => exact ⟨(fun h => by cases h), fun _ => (by decide : (1 : Nat) < 4)⟩
  | 1, _ => exact ⟨(fun h => by cases h), fun _ => (by decide : (0 : Nat) < 4)⟩
  | 2, _ => exact ⟨(fun h => by cases h), fun _ => (by decide : (3 : Nat) < 4)⟩
  | 3, _ => exact ⟨(fun h => by cases h), fun _ => (by decide : (2 : Nat) < 4)⟩
theorem join_ok {t : Kn.Tg} (h : EnsOk t) (hl : t.ends.length = 4) {a b : Nat} (ha : a < 4) (hb : b < 4) (hc : (Kn.en t.ends a).c = true) : EnsOk (t.join a b) ∧ (t.join a b).many = t.many := by
  unfold Kn.Tg.join
  simp only [hc, if_true]
  exact ⟨h.glue hl hb ((h a ha).1 hc), glue_many _ _ _⟩
theorem TgAt.loop {B0 b mt nn : Nat} {w : World} {v : Value} {t : Kn.Tg} (h : TgAt B0 w b mt nn v t) : TgAt B0 (w.setCell ⟨b, 18, none⟩ (.int .i64 ((t.loops + 1 : Nat) : Int))) b mt nn v { t with loops := t.loops + 1 } := by
  have hf : Fr (fun k => k = b) w (w.setCell ⟨b, 18, none⟩ (.int .i64 ((t.loops + 1 : Nat) : Int))) := (Fr.refl (fun k => k = b) w).setCell (a := ⟨b, 18, none⟩) (.inl rfl) _
  refine ⟨rowIs_congr (h.row.set 18 _) fun j hj => ?_, hf.owns h.own fun j hj e' => (h.own_ne j hj).1 e', h.tie.fr hf h.ne.symm, h.len, h.plen, h.lb, h.lm⟩
  unfold tgF
  by_cases c : j = 18
  · subst c; simp
  · simp only
    by_cases c1 : j < 16
    · rw [if_pos c1, if_neg c, if_pos c1]
    · rw [if_neg c1, if_neg c, if_neg c1]
      by_cases c2 : j = 16
      · rw [if_pos c2, if_pos c2]
      · rw [if_neg c2, if_neg c2, if_pos (by omega), if_pos (by omega)]
set_option maxHeartbeats 1000000 in
theorem joinL_any (B0 b mt nn j k : Nat) (v : Value) (t : Kn.Tg) (w : World) (h : TgAt B0 w b mt nn v t) (hl : t.loops ≤ 1000) (hj : j < 4) (hk : k < 4) (hc : (Kn.en t.ends j).c = false) (ho : (Kn.en t.ends j).o = k) :
    Calls Try.prog 16 #[.pointer (some ⟨b, 0, none⟩), .int .i64 (j : Nat), .int .i64 (k : Nat)] w fun e w' => e = .returned (.tuple #[]) ∧ TgAt B0 w' b mt (nn + 2) v (t.join j k) ∧ Fr (fun k => B0 ≤ k) w w' := by
  have H := Lib.hid h
  obtain ⟨x, HX⟩ : ∃ z, Hid (z = Kn.en t.ends j) := ⟨_, Lib.hid rfl⟩
  obtain ⟨y, HY⟩ : ∃ z, Hid (z = Kn.en t.ends k) := ⟨_, Lib.hid rfl⟩
  obtain ⟨x0, x1, x2, x3⟩ := h.end_ hj
  obtain ⟨y0, y1, y2, y3⟩ := h.end_ hk
  rw [← HX.out] at x0 x1 x2 x3
  rw [← HY.out] at y0 y1 y2 y3
  have kb : b < w.heap.size := World.block_lt_of_cell? _ _ x0
  have kb1 : b < w.heap.size + 1 := by omega
  have kb2 : b < w.heap.size + 1 + 1 := by omega
  have i1 : (0 : Int) ≤ (j : Int) := by omega
  have i2 : (j : Int) < 4 := by omega
  have i3 : (0 : Int) ≤ (k : Int) := by omega
  have i4 : (k : Int) < 4 := by omega
  have HJ : Hid (t.join j k = { t with loops := t.loops + 1 }) := Lib.hid (Kn.join_loop hc ho)
  clear h
  go_enter Try.func16, Try.ntmps16
  go_upto_region 0 with fail
  go_cut [6, 7] (fun s6 s7 wx => Hid (Two62 w wx x y s6 s7))
  case first =>
    go_region
    all_goals (go_wp2_with fail)
    all_goals go_meet
    · exact Lib.hid (two_drew (two_ab w x y))
    · exact Lib.hid (two_drew (two_ba w x y))
  case rest =>
  obtain ⟨B6, B7, rfl, rfl, hN, h6, h7⟩ := Hid.out hcut
  obtain ⟨w1, rfl⟩ : ∃ w1, w1 = wc := ⟨_, rfl⟩
  have HN := Lib.hid hN
  have HT1 := Lib.hid (H.out.new hN)
  have hxc : x.c = false := by rw [HX.out]; exact hc
  have hxo : x.o = k := by rw [HX.out]; exact ho
  obtain ⟨z0, z1, z2, z3⟩ := four_c h6
  rw [hxc] at z0
  rw [hxo] at z3
  have g1 := HT1.out.rest.2.2
  have g2 := HT1.out.row.frozen 18
  have lo : (t.loops : Int) ≤ 1000 := by omega
  have lo0 : (0 : Int) ≤ (t.loops : Int) := by omega
  clear hcut hN h6 h7 x0 x1 x2 x3 y0 y1 y2 y3 kb kb1 kb2 hxc hxo hc ho z1 z2
  go_wp2
  refine bodyPost_end (results_none rfl _ _ _) rfl ?_
  refine ⟨rfl, by rw [HJ.out]; exact (HT1.out.loop).more (by omega), (HN.out.mono fun _ x => x.elim).trans ((Fr.refl (fun k => B0 ≤ k) w1).setCell (a := ⟨b, 18, none⟩) (.inl HT1.out.lb) _)⟩
theorem joinB_any (B0 b mt nn j k : Nat) (v : Value) (t : Kn.Tg) (w : World) (h : TgAt B0 w b mt nn v t) (hn : nn ≤ 90000) (hl : t.loops ≤ 1000) (hE : EnsOk t) (hj : j < 4) (hk : k < 4) (hc : Kn.Jn t j k) :
    Calls Try.prog 16 #[.pointer (some ⟨b, 0, none⟩), .int .i64 (j : Nat), .int .i64 (k : Nat)] w fun e w' => e = .returned (.tuple #[]) ∧ TgAt B0 w' b mt (nn + 2) v (t.join j k) ∧ Fr (fun k => B0 ≤ k) w w' := by
  rcases hc with hc | ⟨hc, ho⟩
  · exact join_any B0 b mt nn j k v t w h hn hE hj hk hc
  · exact joinL_any B0 b mt nn j k v t w h hl hj hk hc ho
theorem joinB_ok {t : Kn.Tg} (h : EnsOk t) (hl : t.ends.length = 4) {a b : Nat} (ha : a < 4) (hb : b < 4) (hc : Kn.Jn t a b) : EnsOk (t.join a b) ∧ (t.join a b).many = t.many := by
  rcases hc with hc | ⟨hc, ho⟩
  · exact join_ok h hl ha hb hc
  · rw [Kn.join_loop hc ho]; exact ⟨h, rfl⟩
end Go.Proofs.Ytcfpdeeipbekfaa
