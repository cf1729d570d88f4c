/- Walks: twist. -/
import Derived.Test.YtcfpdeeipbekfaaT4
namespace Go.Proofs.Ytcfpdeeipbekfaa
open Go.RowKit

theorem Try.info71 : (Try.prog.info? 71).map (fun i => (i.zero, i.size, i.bytes)) = some (some (.agg #[.int .i64 0, .int .i64 0, .int .i64 0, .int .i64 0]), 4, 32) := by kernel_rfl
def EnsOk (t : Kn.Tg) : Prop := ∀ k, k < 4 → enOk t k
theorem EnsOk.set {t : Kn.Tg} {l : List Kn.En} (h : ∀ k, k < 4 → ((Kn.en l k).c = true → isCo (Kn.en l k).p) ∧ ((Kn.en l k).c = false → (Kn.en l k).o < 4)) (hl : l = t.ends) : EnsOk t := by subst hl; exact h
theorem EnsOk.setE {t : Kn.Tg} (h : EnsOk t) (hl : t.ends.length = 4) {k : Nat} (hk : k < 4) {c : Kn.Pl} (hc : isCo c) : EnsOk (t.setE k ⟨true, c, 0⟩) := by
  intro j hj
  unfold enOk Kn.Tg.setE
  simp only
  rw [en_set (by omega)]
  split
  · exact ⟨fun _ => hc, (fun h => by cases h)⟩
  · exact h j hj
theorem EnsOk.glue {t : Kn.Tg} (h : EnsOk t) (hl : t.ends.length = 4) {k : Nat} (hk : k < 4) {c : Kn.Pl} (hc : isCo c) : EnsOk (t.glue k c) := by
  unfold Kn.Tg.glue
  split
  · exact h
  · rename_i hn
    exact h.setE hl ((h k hk).2 (by simpa using hn)) hc
theorem EnsOk.place {t : Kn.Tg} (h : EnsOk t) (a : Bool) : EnsOk (t.place a) := h
theorem place_many (t : Kn.Tg) (a : Bool) (h : t.places.length = 4 * t.many) : (t.place a).many = t.many + 1 ∧ (t.place a).places.length = 4 * (t.many + 1) := by
  have e : (t.place a).places.length = 4 * (t.many + 1) := by
    cases a <;> simp [Kn.Tg.place, h] <;> omega
  exact ⟨by unfold Kn.Tg.many at *; rw [e]; omega, e⟩
theorem glue_many (t : Kn.Tg) (k : Nat) (c : Kn.Pl) : (t.glue k c).many = t.many := by
  unfold Kn.Tg.glue; split <;> rfl
theorem four_ints (a b c d : Int) : ∀ u ∈ [Value.int .i64 a, .int .i64 b, .int .i64 c, .int .i64 d], u.oneCell' = true := by simp [Value.oneCell']
theorem cell_four_new (w : World) (a b c d : Value) (t : TypeId) : ∀ (j : Nat) (u : Value), [a, b, c, d][j]? = some u → (w.alloc (.cells #[a, b, c, d] t)).cell? ((⟨w.heap.size, 0, none⟩ : Addr).add j) = some u := by
  intro j u hj
  have h := four_c (heap_alloc_new w (.cells #[a, b, c, d] t))
  rw [addr_add, Nat.zero_add]
  match j, hj with
  | 0, hj => cases hj; exact h.1
  | 1, hj => cases hj; exact h.2.1
  | 2, hj => cases hj; exact h.2.2.1
  | 3, hj => cases hj; exact h.2.2.2
  | j + 4, hj => simp at hj
theorem nums_app (l m : List Nat) : nums (l ++ m) = nums l ++ nums m := by simp [nums]
/- places stored -/
theorem TgAt.placed {B0 b mt nn : Nat} {w w' w7 : World} {v v' : Value} {t : Kn.Tg} (h : TgAt B0 w b mt nn v t) (a : Bool) (hn : New w w') (ho : w7.ownsRow B0 71 4 v' (t.many + 1) (nums (t.place a).places)) (hg : w'.grownBy w7 v.ownBlock) :
    TgAt B0 (w7.setCell ⟨b, 16, none⟩ v') b mt nn v' (t.place a) ∧ Fr (fun k => B0 ≤ k) w (w7.setCell ⟨b, 16, none⟩ v') := by
  have h1 := h.new hn
  have hF : Fr (fun k => v.ownBlock = some k) w' w7 := (Fr.refl _ w').grown hg fun k ek => .inl ek
  have hb : ¬ v.ownBlock = some b := fun e => (h1.own_ne b e).1 rfl
  have hm : ¬ v.ownBlock = some mt := fun e => (h1.own_ne mt e).2 rfl
  have h2 := hF.row h1.row hb
  have h3 := h1.tie.fr hF hm
  have hS : Fr (fun k => k = b) w7 (w7.setCell ⟨b, 16, none⟩ v') := (Fr.refl (fun k => k = b) w7).setCell (a := ⟨b, 16, none⟩) (.inl rfl) _
  refine ⟨⟨?_, ?_, h3.fr hS h1.ne.symm, h.len, ?_, h.lb, h.lm⟩, ?_⟩
  · refine rowIs_congr (h2.set 16 v') fun j hj => ?_
    unfold tgF
    by_cases c : j < 16
    · rw [if_pos c, if_neg (show ¬ j = 16 by omega), if_pos c]; rfl
    · rw [if_neg c]
      by_cases d : j = 16
      · rw [if_pos d, if_pos d]
      · rw [if_neg d, if_neg d, if_neg c, if_neg d]; rfl
  · rw [(place_many t a h.plen).1]
    exact hS.owns ho fun k hk e => Ytcfpdeeipbekfaa.own_ne ho h2 (by decide) k hk e
  · rw [(place_many t a h.plen).1]; exact (place_many t a h.plen).2
  · have f1 : Fr (fun k => B0 ≤ k) w w' := hn.mono fun _ x => x.elim
    have f2 : Fr (fun k => B0 ≤ k) w' w7 := hF.mono fun k hk => own_lb h1.own k hk
    exact (f1.trans f2).trans (hS.mono fun k e => by rw [e]; exact h.lb)
theorem pair_at {W : World} {B t : Nat} {a b : Value} (h : W.heap[B]? = some (.cells #[a, b] t (0, 0))) (i : Nat) (hi : i < 2) : W.cell? ⟨B, i, none⟩ = some (if i = 0 then a else b) := by
  have : i = 0 ∨ i = 1 := by omega
  rcases this with rfl | rfl
  · exact (two_c h).1
  · exact (two_c h).2
/- the first i of a twist's ties -/
def gl (t : Kn.Tg) (below : Bool) (m : Nat) : Nat → Kn.Tg
  | 0 => t
  | 1 => t.glue (Kn.old0 below) (m, 0)
  | _ => (t.glue (Kn.old0 below) (m, 0)).glue 3 (m, Kn.tied1 below)
def oldN (below : Bool) (i : Nat) : Nat := if i = 0 then Kn.old0 below else 3
def tiedN (below : Bool) (i : Nat) : Nat := if i = 0 then 0 else Kn.tied1 below
theorem gl_succ (t : Kn.Tg) (below : Bool) (m : Nat) {i : Nat} (hi : i < 2) : gl t below m (i + 1) = (gl t below m i).glue (oldN below i) (m, tiedN below i) := by
  have : i = 0 ∨ i = 1 := by omega
  rcases this with rfl | rfl <;> rfl
def sE (t : Kn.Tg) (below : Bool) (m : Nat) : Nat → Kn.Tg
  | 0 => t
  | 1 => t.setE (Kn.old0 below) ⟨true, (m, Kn.old0 below), 0⟩
  | _ => (t.setE (Kn.old0 below) ⟨true, (m, Kn.old0 below), 0⟩).setE 3 ⟨true, (m, 3), 0⟩
theorem sE_succ (t : Kn.Tg) (below : Bool) (m : Nat) {i : Nat} (hi : i < 2) : sE t below m (i + 1) = (sE t below m i).setE (oldN below i) ⟨true, (m, oldN below i), 0⟩ := by
  have : i = 0 ∨ i = 1 := by omega
  rcases this with rfl | rfl <;> rfl
theorem old_lt (below : Bool) (i : Nat) : oldN below i < 4 := by unfold oldN Kn.old0; split <;> (try split) <;> omega
theorem tied_lt (below : Bool) (i : Nat) : tiedN below i < 4 := by unfold tiedN Kn.tied1; split <;> (try split) <;> omega
theorem gl_len (t : Kn.Tg) (below : Bool) (m : Nat) (h : t.ends.length = 4) : ∀ i, (gl t below m i).ends.length = 4 := by
  have e : ∀ (u : Kn.Tg) k c, u.ends.length = 4 → (u.glue k c).ends.length = 4 := fun u k c hu => by
    unfold Kn.Tg.glue; split
    · exact hu
    · show (u.ends.set _ _).length = 4; rw [List.length_set, hu]
  intro i
  match i with
  | 0 => exact h
  | 1 => exact e _ _ _ h
  | i + 2 => exact e _ _ _ (e _ _ _ h)
theorem gl_ok (t : Kn.Tg) (below : Bool) (m : Nat) (hm : m < 20) (h : t.ends.length = 4) (hE : EnsOk t) : ∀ i, EnsOk (gl t below m i) := by
  intro i
  have h1 := hE.glue h (k := Kn.old0 below) (old_lt below 0) (c := (m, 0)) ⟨hm, (by omega : (0 : Nat) < 4)⟩
  match i with
  | 0 => exact hE
  | 1 => exact h1
  | i + 2 => exact h1.glue (gl_len t below m h 1) (k := 3) (by omega) (c := (m, Kn.tied1 below)) ⟨hm, tied_lt below 1⟩
set_option maxRecDepth 100000 in
set_option maxHeartbeats 4000000 in
theorem twist_any (B0 b mt nn : Nat) (v : Value) (t : Kn.Tg) (below above : Bool) (w : World) (h : TgAt B0 w b mt nn v t) (hn : nn ≤ 90000) (hE : EnsOk t) (hm : t.many < 16) :
    Calls Try.prog 15 #[.pointer (some ⟨b, 0, none⟩), .bool below, .bool above] w fun e w' => e = .returned (.tuple #[]) ∧ (∃ v', TgAt B0 w' b mt (nn + 4) v' (t.twist below above)) ∧ Fr (fun k => B0 ≤ k) w w' := by
  have H := Lib.hid h
  have HE := Lib.hid hE
  obtain ⟨m, HM⟩ : ∃ m, Hid (m = t.many) := ⟨_, Lib.hid rfl⟩
  obtain ⟨x16, _, _⟩ := h.rest
  have f16 := h.row.frozen 16
  have ho := h.own
  rw [← HM.out] at hm ho
  have HO := Lib.hid ho
  obtain ⟨a5, c5, rfl, _⟩ := own_shape2 ho
  have kb : b < w.heap.size := World.block_lt_of_cell? _ _ x16
  have hB0 : B0 ≤ b := h.lb
  clear h hE ho
  obtain ⟨i0, hi, hz0, hz1, hz2⟩ := info_parts Try.info71
  go_enter Try.func15, Try.ntmps15
  go_upto_if 17 with fail
  go_cut [18] from 18 to 37 (fun s18 wx => Hid (∃ v', TgAt B0 wx b mt nn v' (t.place above) ∧ Fr (fun k => B0 ≤ k) w wx))
  case first =>
    cases above
    · skip
      go_wp2_with (first
        | (at_builtin; refine wpList_append_own _ rfl _ _ 68 rfl B0 71 i0 (.agg #[.int .i64 0, .int .i64 0, .int .i64 0, .int .i64 0]) 4 32 Try.underlying68 hi hz0 hz1 hz2 rfl (by decide) _ m (nums t.places) rfl (World.ownsRow.alloc HO.out _) ⟨w.heap.size, 0, none⟩ 1 1 [.int .i64 2, .int .i64 3, .int .i64 1, .int .i64 0] rfl rfl (cell_four_new _ _ _ _ _ _) (four_ints _ _ _ _) (by unfold maxLen; omega) (by omega) (by simp; omega) ?_; intro v' w7 hown hgrow _; have HR7 : Hid (w7.rowIs b 70 19 (tgF t (.slice a5 m c5) mt)) := (Lib.hid ((H.out.new ((Fr.refl _ _).alloc _)).row.of_block (hgrow.block b (by simp; omega) (fun e => (H.out.own_ne b e.symm).1 rfl)))); have y16 := HR7.out.cell (i := 16) (by omega); have g16 := HR7.out.frozen 16; obtain ⟨a9, c10, rfl, _⟩ := own_shape2 hown; have HOW := Lib.hid hown; have HGR := Lib.hid hgrow; clear hown hgrow)
        | go_in)
      go_meet
      exact Lib.hid ⟨_, H.out.placed false ((Fr.refl _ _).alloc _) (by rw [← HM.out]; unfold Kn.Tg.place; simp only [Bool.false_eq_true, if_true, if_false]; rw [nums_app]; exact HOW.out) HGR.out⟩
    · skip
      go_wp2_with (first
        | (at_builtin; refine wpList_append_own _ rfl _ _ 68 rfl B0 71 i0 (.agg #[.int .i64 0, .int .i64 0, .int .i64 0, .int .i64 0]) 4 32 Try.underlying68 hi hz0 hz1 hz2 rfl (by decide) _ m (nums t.places) rfl (World.ownsRow.alloc HO.out _) ⟨w.heap.size, 0, none⟩ 1 1 [.int .i64 0, .int .i64 2, .int .i64 3, .int .i64 1] rfl rfl (cell_four_new _ _ _ _ _ _) (four_ints _ _ _ _) (by unfold maxLen; omega) (by omega) (by simp; omega) ?_; intro v' w7 hown hgrow _; have HR7 : Hid (w7.rowIs b 70 19 (tgF t (.slice a5 m c5) mt)) := (Lib.hid ((H.out.new ((Fr.refl _ _).alloc _)).row.of_block (hgrow.block b (by simp; omega) (fun e => (H.out.own_ne b e.symm).1 rfl)))); have y16 := HR7.out.cell (i := 16) (by omega); have g16 := HR7.out.frozen 16; obtain ⟨a9, c10, rfl, _⟩ := own_shape2 hown; have HOW := Lib.hid hown; have HGR := Lib.hid hgrow; clear hown hgrow)
        | go_in)
      go_meet
      exact Lib.hid ⟨_, H.out.placed true ((Fr.refl _ _).alloc _) (by rw [← HM.out]; unfold Kn.Tg.place; simp only [Bool.false_eq_true, if_true, if_false]; rw [nums_app]; exact HOW.out) HGR.out⟩
  case rest =>
  obtain ⟨v1, hT1, hF1⟩ := Hid.out hcut
  obtain ⟨w1, rfl⟩ : ∃ w1, w1 = wc := ⟨_, rfl⟩
  have HT1 := Lib.hid hT1
  have HF1 := Lib.hid hF1
  clear hcut hT1 hF1 x16 f16 kb
  go_upto_if 41 with fail
  go_cut [42] from 42 to 44 (fun s42 wx => Hid (wx = ((w1.alloc (.cells #[.int .i64 (Kn.old0 below : Nat), .int .i64 3] 72)).alloc (.cells #[.int .i64 0, .int .i64 (Kn.tied1 below : Nat)] 72)).alloc (.cells #[.int .i64 (Kn.old0 below : Nat), .int .i64 3] 72)))
  case first =>
    cases below
    all_goals
      go_wp2_with fail
      go_meet
      exact Lib.hid rfl
  case rest =>
  obtain ⟨w3, rfl⟩ : ∃ w3, w3 = wc := ⟨_, rfl⟩
  have HW3 := Lib.hid hcut.out
  clear hcut
  obtain ⟨A7, HA7⟩ : ∃ z, Hid (z = w1.heap.size) := ⟨_, Lib.hid rfl⟩
  obtain ⟨A8, HA8⟩ : ∃ z, Hid (z = w1.heap.size + 1) := ⟨_, Lib.hid rfl⟩
  obtain ⟨A9, HA9⟩ : ∃ z, Hid (z = w1.heap.size + 1 + 1) := ⟨_, Lib.hid rfl⟩
  have HN3 : Hid (New w1 w3) := Lib.hid (by rw [HW3.out]; exact (((Fr.refl _ _).alloc _).alloc _).alloc _)
  have HX7 : Hid (w3.heap[A7]? = some (.cells #[.int .i64 (Kn.old0 below : Nat), .int .i64 3] 72 (0, 0))) := Lib.hid (by
    rw [HW3.out, HA7.out]; exact (((Fr.refl (fun _ => False) _).alloc _).alloc _).blk (heap_alloc_new w1 _) fun x => x)
  have HX8 : Hid (w3.heap[A8]? = some (.cells #[.int .i64 0, .int .i64 (Kn.tied1 below : Nat)] 72 (0, 0))) := Lib.hid (by
    have e0 : (w1.alloc (.cells #[.int .i64 (Kn.old0 below : Nat), .int .i64 3] 72)).heap.size = w1.heap.size + 1 := by simp
    rw [HW3.out, HA8.out, ← e0]; exact ((Fr.refl (fun _ => False) _).alloc _).blk (heap_alloc_new _ _) fun x => x)
  have HX9 : Hid (w3.heap[A9]? = some (.cells #[.int .i64 (Kn.old0 below : Nat), .int .i64 3] 72 (0, 0))) := Lib.hid (by
    have e0 : ((w1.alloc (.cells #[.int .i64 (Kn.old0 below : Nat), .int .i64 3] 72)).alloc (.cells #[.int .i64 0, .int .i64 (Kn.tied1 below : Nat)] 72)).heap.size = w1.heap.size + 1 + 1 := by simp
    rw [HW3.out, HA9.out, ← e0]; exact heap_alloc_new _ _)
  have HT3 := Lib.hid (HT1.out.new HN3.out)
  obtain ⟨t1, HTT⟩ : ∃ z, Hid (z = t.place above) := ⟨_, Lib.hid rfl⟩
  rw [← HTT.out] at HT3
  have HE1 : Hid (EnsOk t1) := Lib.hid (by rw [HTT.out]; exact HE.out.place above)
  have HF3 : Hid (Fr (fun k => B0 ≤ k) w w3) := Lib.hid (HF1.out.trans (HN3.out.mono fun _ x => x.elim))
  have hbb : ∀ {B : Nat} {x y : Value}, w3.heap[B]? = some (.cells #[x, y] 72 (0, 0)) → ¬ (B = b ∨ B = mt) := fun hb e => by
    rcases e with e | e
    · exact blk_ne hb HT3.out.row (by decide) e
    · obtain ⟨es, ck, hm⟩ := HT3.out.tie.block
      subst e; rw [hb] at hm; cases hm
  have N7 := Lib.hid (hbb HX7.out)
  have N8 := Lib.hid (hbb HX8.out)
  have N9 := Lib.hid (hbb HX9.out)
  rw [← HA9.out, ← HA8.out, ← HA7.out]
  clear HT1 HW3 HA7 HA8 HA9 hbb HF1
  go_wp2_with fail
  go_loopw [45] (fun iv wr => ∃ i : Nat, i ≤ 2 ∧ iv = .int .i64 i ∧ Hid (TgAt B0 wr b mt (nn + 2 * i) v1 (gl t1 below m i)) ∧ Hid (Fr (fun k => k = b ∨ k = mt) w3 wr)) (fun iv _ => 2 - (intOf iv).toNat)
  case atStart => exact ⟨0, by omega, rfl, HT3, Lib.hid (Fr.refl _ _)⟩
  case round =>
    obtain ⟨i, hi2, rfl, HTi, HFi⟩ := hrel
    by_cases hlt : i < 2
    · obtain ⟨ok, HOK⟩ : ∃ z, Hid (z = oldN below i) := ⟨_, Lib.hid rfl⟩
      obtain ⟨ti, HTI⟩ : ∃ z, Hid (z = tiedN below i) := ⟨_, Lib.hid rfl⟩
      have h7 := pair_at (HFi.out.blk HX7.out N7.out) i hlt
      have h8 := pair_at (HFi.out.blk HX8.out N8.out) i hlt
      rw [show (if i = 0 then Value.int .i64 (Kn.old0 below : Nat) else .int .i64 3) = .int .i64 (ok : Nat) by rw [HOK.out]; unfold oldN; split <;> rfl] at h7
      rw [show (if i = 0 then Value.int .i64 0 else .int .i64 (Kn.tied1 below : Nat)) = .int .i64 (ti : Nat) by rw [HTI.out]; unfold tiedN; split <;> rfl] at h8
      have hok : ok < 4 := by rw [HOK.out]; exact old_lt _ _
      have hti : ti < 4 := by rw [HTI.out]; exact tied_lt _ _
      have i1 : (0 : Int) ≤ (i : Int) := by omega
      have i2 : (i : Int) < 2 := by omega
      have CC := Lib.hid (glue_any B0 b mt (nn + 2 * i) ok m ti v1 _ wr.drew (HTi.out.new (Fr.refl _ wr).drew) (by omega) hok (gl_ok t1 below m (by omega) HT3.out.len HE1.out i ok hok) ⟨by omega, hti⟩)
      have hS : (wr.drew.cell? ⟨A7, i, none⟩ = some (.int .i64 (ok : Nat)) ∧ wr.drew.cell? ⟨A8, i, none⟩ = some (.int .i64 (ti : Nat))) := ⟨h7, h8⟩
      clear h7 h8
      go_wp2_with fail
      refine wp_region_held_drew (S := fun wz => wz.cell? ⟨A7, i, none⟩ = some (.int .i64 (ok : Nat)) ∧ wz.cell? ⟨A8, i, none⟩ = some (.int .i64 (ti : Nat))) (by kernel_rfl) hS (fun hHeld => ?_)
      refine' tkO (i := 0) ?_
      (try simp only [Act.put, lq1, lq2, lq3, lq4, lq5, lq6])
      refine' tkO (i := 1) ?_
      (try simp only [Act.put, lq1, lq2, lq3, lq4, lq5, lq6])
      refine' tkO (i := 2) ?_
      (try simp only [Act.put, lq1, lq2, lq3, lq4, lq5, lq6])
      refine' tkO (i := 3) ?_
      (try simp only [Act.put, lq1, lq2, lq3, lq4, lq5, lq6])
      refine' tkO (i := 4) ?_
      (try simp only [Act.put, lq1, lq2, lq3, lq4, lq5, lq6])
      refine' tkO (i := 5) ?_
      (try simp only [Act.put, lq1, lq2, lq3, lq4, lq5, lq6])
      refine' tkO (i := 6) ?_
      (try simp only [Act.put, lq1, lq2, lq3, lq4, lq5, lq6])
      refine' tkO (i := 7) ?_
      (try simp only [Act.put, lq1, lq2, lq3, lq4, lq5, lq6])
      refine' tkO (i := 8) ?_
      (try simp only [Act.put, lq1, lq2, lq3, lq4, lq5, lq6])
      refine rdO (i := 9) (fun K hK => ?_)
      (try simp only [lq1, lq2, lq3])
      go_simp
      refine CC.out.mono ?_
      rintro e w5 ⟨rfl, hT5, hF5⟩
      have HT5 := Lib.hid hT5
      have HF5 : Hid (Fr (fun k => k = b ∨ k = mt) wr w5) := Lib.hid (((Fr.refl _ wr).drew).trans hF5)
      clear hT5 hF5
      go_wp2_with fail
      refine hK.out _ _ ⟨HF5.out.cell hS.1 N7.out, HF5.out.cell hS.2 N8.out⟩ (fun hHeld => ?_)
      clear hK K
      (try simp only [Act.put, lq1, lq2, lq3, lq4, lq5, lq6])
      refine wpAnyH_done (by kernel_rfl) ?_ _
      go_wp2
      go_roundw
      case rel => exact ⟨i + 1, by omega, by go_num, Lib.hid (by rw [gl_succ t1 below m hlt, ← HOK.out, ← HTI.out]; exact HT5.out), Lib.hid (HFi.out.trans HF5.out)⟩
      case measure => simp [intOf]; omega
    · obtain rfl : 2 = i := by omega
      obtain ⟨w6, rfl⟩ : ∃ w6, w6 = wr := ⟨_, rfl⟩
      go_wp2
      have HT6 : Hid (TgAt B0 w6 b mt (nn + 4) v1 (gl t1 below m 2)) := HTi
      have HF6 := Lib.hid (HF3.out.trans (HFi.out.mono fun k hk => by
        rcases hk with rfl | rfl
        · exact HT3.out.lb
        · exact HT3.out.lm))
      have HX76 := Lib.hid (HFi.out.blk HX7.out N7.out)
      have HX96 := Lib.hid (HFi.out.blk HX9.out N9.out)
      obtain ⟨t2, HT22⟩ : ∃ z, Hid (z = gl t1 below m 2) := ⟨_, Lib.hid rfl⟩
      rw [← HT22.out] at HT6
      clear HTi HFi
      go_loopw [59] (fun iv wr => ∃ i : Nat, i ≤ 2 ∧ iv = .int .i64 i ∧ Hid (TgAt B0 wr b mt (nn + 4) v1 (sE t2 below m i)) ∧ Hid (Fr (fun k => k = b) w6 wr)) (fun iv _ => 2 - (intOf iv).toNat)
      case atStart => exact ⟨0, by omega, rfl, HT6, Lib.hid (Fr.refl _ _)⟩
      case round =>
        obtain ⟨i, hi2, rfl, HTi, HFi⟩ := hrel
        by_cases hlt : i < 2
        · obtain ⟨ok, HOK⟩ : ∃ z, Hid (z = oldN below i) := ⟨_, Lib.hid rfl⟩
          have nb7 : Hid (¬ A7 = b) := Lib.hid fun e => N7.out (.inl e)
          have nb9 : Hid (¬ A9 = b) := Lib.hid fun e => N9.out (.inl e)
          have h7 := pair_at (HFi.out.blk HX76.out nb7.out) i hlt
          have h8 := pair_at (HFi.out.blk HX96.out nb9.out) i hlt
          have ee : (if i = 0 then Value.int .i64 (Kn.old0 below : Nat) else .int .i64 3) = .int .i64 (ok : Nat) := by rw [HOK.out]; unfold oldN; split <;> rfl
          rw [ee] at h7 h8
          clear ee
          have hok : ok < 4 := by rw [HOK.out]; exact old_lt _ _
          have i1 : (0 : Int) ≤ (i : Int) := by omega
          have i2 : (i : Int) < 2 := by omega
          have k1 : (0 : Int) ≤ (ok : Int) := by omega
          have k2 : (ok : Int) < 4 := by omega
          have hS : (wr.drew.cell? ⟨A7, i, none⟩ = some (.int .i64 (ok : Nat)) ∧ wr.drew.cell? ⟨A9, i, none⟩ = some (.int .i64 (ok : Nat))) := ⟨h7, h8⟩
          have HS0 := Lib.hid hS
          obtain ⟨r0, HR0⟩ : ∃ z, Hid (z = wr.drew) := ⟨_, Lib.hid rfl⟩
          have HT0 : Hid (TgAt B0 r0 b mt (nn + 4) v1 (sE t2 below m i)) := Lib.hid (by rw [HR0.out]; exact HTi.out.new (Fr.refl _ wr).drew)
          have HS1 : Hid (r0.cell? ⟨A7, i, none⟩ = some (.int .i64 (ok : Nat)) ∧ r0.cell? ⟨A9, i, none⟩ = some (.int .i64 (ok : Nat))) := Lib.hid (by rw [HR0.out]; exact HS0.out)
          clear h7 h8
          go_wp2_with fail
          refine wp_region_held_drew (S := fun wz => wz.cell? ⟨A7, i, none⟩ = some (.int .i64 (ok : Nat)) ∧ wz.cell? ⟨A9, i, none⟩ = some (.int .i64 (ok : Nat))) (by kernel_rfl) hS (fun hHeld => ?_)
          clear hS
          rw [← HR0.out] at hHeld ⊢
          refine' tkO (i := 0) ?_
          (try simp only [Act.put, lq1, lq2, lq3, lq4, lq5, lq6])
          refine' tkO (i := 1) ?_
          (try simp only [Act.put, lq1, lq2, lq3, lq4, lq5, lq6])
          refine' tkO (i := 2) ?_
          (try simp only [Act.put, lq1, lq2, lq3, lq4, lq5, lq6])
          refine' tkO (i := 3) ?_
          (try simp only [Act.put, lq1, lq2, lq3, lq4, lq5, lq6])
          refine' tkO (i := 4) ?_
          (try simp only [Act.put, lq1, lq2, lq3, lq4, lq5, lq6])
          refine' tkO (i := 5) ?_
          (try simp only [Act.put, lq1, lq2, lq3, lq4, lq5, lq6])
          refine' tkO (i := 6) ?_
          (try simp only [Act.put, lq1, lq2, lq3, lq4, lq5, lq6])
          refine' tkO (i := 7) ?_
          (try simp only [Act.put, lq1, lq2, lq3, lq4, lq5, lq6])
          refine' tkO (i := 8) ?_
          (try simp only [Act.put, lq1, lq2, lq3, lq4, lq5, lq6])
          refine' tkO (i := 9) ?_
          (try simp only [Act.put, lq1, lq2, lq3, lq4, lq5, lq6])
          refine' tkO (i := 10) ?_
          (try simp only [Act.put, lq1, lq2, lq3, lq4, lq5, lq6])
          refine' tkO (i := 11) ?_
          (try simp only [Act.put, lq1, lq2, lq3, lq4, lq5, lq6])
          refine' tkO (i := 12) ?_
          (try simp only [Act.put, lq1, lq2, lq3, lq4, lq5, lq6])
          refine rdO (i := 13) (fun K hK => ?_)
          (try simp only [lq1, lq2, lq3])
          obtain ⟨y0, y1, y2, y3⟩ := HT0.out.end_ hok
          have f0 := HT0.out.row.frozen (ok * 4)
          have f1 := HT0.out.row.frozen (ok * 4 + 1)
          have f2 := HT0.out.row.frozen (ok * 4 + 2)
          have f3 := HT0.out.row.frozen (ok * 4 + 3)
          have HP := Lib.hid (HT0.out.put hok ⟨true, (m, ok), 0⟩)
          have HFP := Lib.hid (fr_set4 r0 b ok ⟨true, (m, ok), 0⟩)
          go_simp
          refine hK.out _ (set4 r0 b ok ⟨true, (m, ok), 0⟩) ⟨HFP.out.cell HS1.out.1 nb7.out, HFP.out.cell HS1.out.2 nb9.out⟩ (fun hHeld => ?_)
          clear hK K y0 y1 y2 y3 f0 f1 f2 f3
          (try simp only [Act.put, lq1, lq2, lq3, lq4, lq5, lq6])
          refine wpAnyH_done (by kernel_rfl) ?_ _
          have HFZ : Hid (Fr (fun k => k = b) wr (set4 r0 b ok ⟨true, (m, ok), 0⟩)) := Lib.hid (by have h := HFP.out; rw [HR0.out] at h ⊢; exact ((Fr.refl _ wr).drew).trans h)
          obtain ⟨wz, HWZ⟩ : ∃ z, Hid (z = set4 r0 b ok ⟨true, (m, ok), 0⟩) := ⟨_, Lib.hid rfl⟩
          rw [← HWZ.out] at HP HFZ ⊢
          go_wp2
          refine ⟨⟨_, _, _, _, _, _, _, _, _, _, _, _, _, _, _, _, _, _, ⟨i + 1, by omega, ?_, Lib.hid (by rw [sE_succ t2 below m hlt, ← HOK.out]; exact HP.out), Lib.hid (HFi.out.trans HFZ.out)⟩, rfl⟩, ?_⟩
          · go_num
          · simp [intOf]; omega
        · obtain rfl : 2 = i := by omega
          have HTW : Hid (sE t2 below m 2 = t.twist below above) := Lib.hid (by
            rw [HT22.out, HTT.out, HM.out]; rfl)
          go_wp2
          refine bodyPost_end (results_none rfl _ _ _) rfl ?_
          exact ⟨rfl, ⟨v1, by rw [← HTW.out]; exact HTi.out⟩, HF6.out.trans (HFi.out.mono fun k e => by rw [e]; exact HT3.out.lb)⟩
end Go.Proofs.Ytcfpdeeipbekfaa
