/- Words for the diagram of a tangle: what it makes first. -/
import Derived.Test.YtcfpdeeipbekfaaT8
import Derived.Test.YtcfpdeeipbekfaaMAlld
namespace Go.Proofs.Ytcfpdeeipbekfaa
open Go.RowKit

theorem Try.info72 : (Try.prog.info? 72).map (fun i => (i.zero, i.size, i.bytes)) = some (some (.agg #[.int .i64 0, .int .i64 0]), 2, 16) := by kernel_rfl
abbrev z4 : Array Value := #[.int .i64 0, .int .i64 0, .int .i64 0, .int .i64 0]
abbrev z2 : Array Value := #[.int .i64 0, .int .i64 0]
theorem make65 (m : Nat) (hm : m ≤ 1000) (w : World) : (Instr.makeSlice 68 (.int .i64 (m : Int)) (.int .i64 (m : Int))).run Try.prog w = .ok (.slice (some ⟨w.heap.size, 0, none⟩) m m) (w.alloc (.cells (madeCells z4 (m * 4)) 71)) := by
  obtain ⟨i, hi, h1, h2, h3⟩ := info_parts Try.info71
  have hr := run_make (P := Try.prog) w 68 71 i _ Try.underlying68 hi h1 .i64 .i64 m m (by omega) (Int.le_refl _) (by rw [h3]; omega) (by omega)
  simp only [Int.toNat_natCast, h2] at hr
  exact hr
theorem make73 (m : Nat) (hm : m ≤ 1000) (w : World) : (Instr.makeSlice 76 (.int .i64 (m : Int)) (.int .i64 (m : Int))).run Try.prog w = .ok (.slice (some ⟨w.heap.size, 0, none⟩) m m) (w.alloc (.cells (madeCells z2 (m * 2)) 72)) := by
  obtain ⟨i, hi, h1, h2, h3⟩ := info_parts Try.info72
  have hr := run_make (P := Try.prog) w 76 72 i _ Try.underlying76 hi h1 .i64 .i64 m m (by omega) (Int.le_refl _) (by rw [h3]; omega) (by omega)
  simp only [Int.toNat_natCast, h2] at hr
  exact hr
theorem zeros4 (m j : Nat) (h : j < m) : (madeCells z4 m)[j]? = some (.int .i64 0) := by
  have e : (madeCells z4 m)[j]? = some (z4[j % 4]!) := by simp [madeCells, h]
  rw [e]
  have h4 : j % 4 = 0 ∨ j % 4 = 1 ∨ j % 4 = 2 ∨ j % 4 = 3 := by omega
  rcases h4 with h | h | h | h <;> rw [h] <;> rfl
theorem zeros2 (m j : Nat) (h : j < m) : (madeCells z2 m)[j]? = some (.int .i64 0) := by
  have e : (madeCells z2 m)[j]? = some (z2[j % 2]!) := by simp [madeCells, h]
  rw [e]
  rcases Nat.mod_two_eq_zero_or_one j with h | h <;> rw [h] <;> rfl
/- of three things made one behind the other and a box behind them -/
theorem al4 (w : World) (x y z c : Obj) : New w ((((w.alloc x).alloc y).alloc z).alloc c) ∧ ((((w.alloc x).alloc y).alloc z).alloc c).heap[w.heap.size]? = some x ∧ ((((w.alloc x).alloc y).alloc z).alloc c).heap[w.heap.size + 1]? = some y ∧
    ((((w.alloc x).alloc y).alloc z).alloc c).heap[w.heap.size + 1 + 1]? = some z ∧ ((((w.alloc x).alloc y).alloc z).alloc c).heap[w.heap.size + 1 + 1 + 1]? = some c := by
  have e1 : (w.alloc x).heap.size = w.heap.size + 1 := by simp
  have e2 : ((w.alloc x).alloc y).heap.size = w.heap.size + 1 + 1 := by simp
  have e3 : (((w.alloc x).alloc y).alloc z).heap.size = w.heap.size + 1 + 1 + 1 := by simp
  refine ⟨((((Fr.refl _ _).alloc _).alloc _).alloc _).alloc _, ?_, ?_, ?_, ?_⟩
  · exact ((((Fr.refl (fun _ => False) _).alloc _).alloc _).alloc _).blk (heap_alloc_new w x) fun x => x
  · rw [← e1]; exact (((Fr.refl (fun _ => False) _).alloc _).alloc _).blk (heap_alloc_new _ y) fun x => x
  · rw [← e2]; exact ((Fr.refl (fun _ => False) _).alloc _).blk (heap_alloc_new _ z) fun x => x
  · rw [← e3]; exact heap_alloc_new _ c
/- a walker that has only been made -/
def Made (w wx : World) (b n : Nat) (s3 : Value) : Prop := ∃ wb mp ab ib, s3 = .pointer (some ⟨wb, 0, none⟩) ∧ New w wx ∧ (w.heap.size ≤ wb ∧ w.heap.size ≤ mp ∧ w.heap.size ≤ ab ∧ w.heap.size ≤ ib) ∧
  wx.heap[wb]? = some (.cells #[.pointer (some ⟨b, 0, none⟩), .map (some mp), .slice (some ⟨ab, 0, none⟩) n n, .slice (some ⟨ib, 0, none⟩) n n] 78 (0, 0)) ∧ wx.heap[mp]? = some (.map #[] 0) ∧
  wx.heap[ab]? = some (.cells (madeCells z4 (n * 4)) 71 (0, 0)) ∧ wx.heap[ib]? = some (.cells (madeCells z2 (n * 2)) 72 (0, 0))
theorem Made.drew {w wx : World} {b n : Nat} {s3 : Value} (h : Made w wx b n s3) : Made w wx.drew b n s3 := by
  obtain ⟨wb, mp, ab, ib, h1, h2, h3, h4, h5, h6, h7⟩ := h
  exact ⟨wb, mp, ab, ib, h1, h2.drew, h3, h4, h5, h6, h7⟩
/- a walker before it walks: the places up to k are known, the first m of 'in' are -1 -/
structure WkP (B0 : Nat) (w : World) (wb b mt nn mp np ab ib n k m : Nat) (v : Value) (t : Kn.Tg) : Prop where
  blk : w.heap[wb]? = some (.cells #[.pointer (some ⟨b, 0, none⟩), .map (some mp), .slice (some ⟨ab, 0, none⟩) n n, .slice (some ⟨ib, 0, none⟩) n n] 78 (0, 0))
  tg : TgAt B0 w b mt nn v t
  pm : PmMap w mp np (Kn.placeF t.places k)
  arcs : w.rowIs ab 71 (4 * n) (fun _ => .int .i64 0)
  inn : w.rowIs ib 72 (2 * n) (fun j => .int .i64 (if j < m then -1 else 0))
  hn : n = t.many
theorem Made.start {B0 : Nat} {w wx : World} {b mt nn n : Nat} {v s3 : Value} {t : Kn.Tg} (h : Made w wx b n s3) (ht : TgAt B0 w b mt nn v t) (hn : n = t.many) : ∃ wb mp ab ib, s3 = .pointer (some ⟨wb, 0, none⟩) ∧ New w wx ∧ (w.heap.size ≤ wb ∧ w.heap.size ≤ mp ∧ w.heap.size ≤ ab ∧ w.heap.size ≤ ib) ∧ WkP B0 wx wb b mt nn mp 0 ab ib n 0 0 v t := by
  obtain ⟨wb, mp, ab, ib, h1, h2, h3, h4, h5, h6, h7⟩ := h
  refine ⟨wb, mp, ab, ib, h1, h2, h3, ⟨h4, ht.new h2, ⟨_, ⟨#[], 0, h5, ⟨by simp, Go.MapKept.stamped_empty 0, by simp⟩, Nat.le_refl _, rfl⟩, PmD.empty⟩, ⟨_, h6, by rw [size_madeCells]; omega, fun i hi => zeros4 _ _ (by omega)⟩, ⟨_, h7, by rw [size_madeCells]; omega, fun i hi => ?_⟩, hn⟩⟩
  rw [zeros2 _ _ (by omega)]
  show _ = some (Value.int .i64 (if i < 0 then -1 else 0))
  rw [if_neg (by omega)]
section
variable {B0 wb b mt nn mp np ab ib n k m : Nat} {w w' : World} {v : Value} {t : Kn.Tg}
theorem WkP.new (h : WkP B0 w wb b mt nn mp np ab ib n k m v t) (hf : New w w') : WkP B0 w' wb b mt nn mp np ab ib n k m v t :=
  ⟨hf.blk h.blk fun x => x, h.tg.new hf, h.pm.fr hf fun x => x, hf.row h.arcs fun x => x, hf.row h.inn fun x => x, h.hn⟩
theorem WkP.place (h : WkP B0 w wb b mt nn mp np ab ib n k m v t) (h0 : 0 < n) : ∃ g c, v = .slice (some ⟨g, 0, none⟩) n c ∧ ∀ k, k < 4 * n → w.cell? ⟨g, k, none⟩ = some (.int .i64 (t.places.getD k 9 : Nat)) := by
  have ho := h.tg.own
  rw [← h.hn] at ho
  have hl := h.tg.plen
  rw [← h.hn] at hl
  rcases ho.2 with ⟨rfl, h1⟩ | ⟨g, cap, cur, rfl, _⟩
  · omega
  · refine ⟨g, cap, rfl, fun k hk => ?_⟩
    have := World.ownsRow.cells ho (g := g) rfl k (.int .i64 (t.places.getD k 9 : Nat)) (by
      unfold nums
      rw [List.getElem?_map, List.getD_eq_getElem?_getD, List.getElem?_eq_getElem (by omega)]; rfl)
    rwa [addr_add, Nat.zero_add] at this
theorem WkP.ne (h : WkP B0 w wb b mt nn mp np ab ib n k m v t) : wb ≠ ib ∧ b ≠ ib ∧ mt ≠ ib ∧ mp ≠ ib ∧ ab ≠ ib ∧ wb ≠ mp ∧ b ≠ mp ∧ ab ≠ mp ∧ ib ≠ mp := by
  have hm : ∀ {m : Nat} {es ck}, w.heap[m]? = some (.map es ck) → m ≠ ib := fun hb e => by
    obtain ⟨cs, hc, _⟩ := h.inn
    subst e; rw [hb] at hc; cases hc
  obtain ⟨e1, c1, h1⟩ := h.tg.tie.block
  obtain ⟨e2, c2, h2⟩ := h.pm.block
  have hr : ∀ {B t n : Nat} {f : Nat → Value}, w.rowIs B t n f → B ≠ mp := fun hb e => by
    obtain ⟨cs, hc, _⟩ := hb
    subst e; rw [h2] at hc; cases hc
  exact ⟨blk_ne h.blk h.inn (by decide), rowIs_ne h.tg.row h.inn (by decide), hm h1, hm h2, rowIs_ne h.arcs h.inn (by decide), (fun e => by have hb := h.blk; rw [e, h2] at hb; cases hb), hr h.tg.row, hr h.arcs, hr h.inn⟩
theorem WkP.setI2 (h : WkP B0 w wb b mt nn mp np ab ib n k m v t) {c : Nat} (hm : m = c * 2) : WkP B0 ((w.setCell ⟨ib, c * 2, none⟩ (.int .i64 (-1))).setCell ⟨ib, c * 2 + 1, none⟩ (.int .i64 (-1))) wb b mt nn mp np ab ib n k ((c + 1) * 2) v t := by
  obtain ⟨n1, n2, n3, n4, n5, _⟩ := h.ne
  have hF : Fr (fun k => k = ib) w ((w.setCell ⟨ib, c * 2, none⟩ (.int .i64 (-1))).setCell ⟨ib, c * 2 + 1, none⟩ (.int .i64 (-1))) := ((Fr.refl (fun k => k = ib) w).setCell (a := ⟨ib, c * 2, none⟩) (.inl rfl) _).setCell (a := ⟨ib, c * 2 + 1, none⟩) (.inl rfl) _
  refine ⟨hF.blk h.blk n1, ⟨hF.row h.tg.row n2, hF.owns h.tg.own fun k hk => Ytcfpdeeipbekfaa.own_ne h.tg.own h.inn (by decide) k hk, h.tg.tie.fr hF n3, h.tg.len, h.tg.plen, h.tg.lb, h.tg.lm⟩, h.pm.fr hF n4, hF.row h.arcs n5, rowIs_congr ((h.inn.set (c * 2) _).set (c * 2 + 1) _) fun j hj => ?_, h.hn⟩
  by_cases c1 : j = c * 2 + 1
  · rw [if_pos c1, if_pos (by omega)]
  · rw [if_neg c1]
    by_cases c2 : j = c * 2
    · rw [if_pos c2, if_pos (by omega)]
    · rw [if_neg c2]
      by_cases c3 : j < m
      · rw [if_pos c3, if_pos (by omega)]
      · rw [if_neg c3, if_neg (by omega)]
theorem WkP.putM (h : WkP B0 w wb b mt nn mp np ab ib n k m v t) {np' : Nat} {f : Kn.Pl → Option Nat} (hf : Fr (fun k => k = mp) w w') (hm : PmMap w' mp np' f) (hmt : mt ≠ mp) {k' : Nat} (he : f = Kn.placeF t.places k') : WkP B0 w' wb b mt nn mp np' ab ib n k' m v t := by
  obtain ⟨_, _, _, _, _, n6, n7, n8, n9⟩ := h.ne
  obtain ⟨es, ck, hb⟩ := h.pm.block
  exact ⟨hf.blk h.blk n6, ⟨hf.row h.tg.row n7, hf.owns h.tg.own fun k hk => own_not_map h.tg.own hb k hk, h.tg.tie.fr hf hmt, h.tg.len, h.tg.plen, h.tg.lb, h.tg.lm⟩, by rw [← he]; exact hm, hf.row h.arcs n8, hf.row h.inn n9, h.hn⟩
theorem WkP.wk (h : WkP B0 w wb b mt nn mp np ab ib n (4 * n) (2 * n) v t) : WkAt B0 w wb b mt nn mp np ab ib n v t ⟨List.replicate (4 * n) 0, List.replicate (2 * n) (-1)⟩ := by
  refine ⟨h.blk, h.tg, ?_, rowIs_congr h.arcs fun j hj => ?_, rowIs_congr h.inn fun j hj => ?_, by simp, by simp, h.hn⟩
  · have := h.pm
    rw [h.hn] at this
    exact this
  · unfold numFn
    simp only
    rw [List.getD_eq_getElem?_getD, List.getElem?_replicate, if_pos hj]; rfl
  · unfold innF
    simp only
    rw [List.getD_eq_getElem?_getD, List.getElem?_replicate, if_pos hj, if_pos hj]; rfl
end
theorem placeF_succ (places : List Nat) (k : Nat) : Kn.placeF places (k + 1) = putP (Kn.placeF places k) (k / 4, places.getD k 9) (k % 4) := rfl
theorem visits_map (n : Nat) : Kn.visitsL n = (List.range (2 * n)).map fun k => (k / 2, k % 2) := by
  induction n with
  | zero => rfl
  | succ n ih =>
    unfold Kn.visitsL at ih ⊢
    rw [List.range_succ, List.flatMap_append, ih, show 2 * (n + 1) = 2 * n + 1 + 1 by omega, List.range_succ, List.range_succ]
    simp only [List.flatMap_cons, List.flatMap_nil, List.append_nil, List.map_append, List.map_cons, List.map_nil, List.append_assoc, List.cons_append, List.nil_append]
    rw [show 2 * n / 2 = n by omega, show 2 * n % 2 = 0 by omega, show (2 * n + 1) / 2 = n by omega, show (2 * n + 1) % 2 = 1 by omega]
theorem visits_drop {n c i : Nat} (hc : c < n) (hi : i < 2) : (Kn.visitsL n).drop (c * 2 + i) = (c, i) :: (Kn.visitsL n).drop (c * 2 + (i + 1)) := by
  rw [visits_map, List.drop_eq_getElem_cons (by simp; omega)]
  simp only [List.getElem_map, List.getElem_range]
  rw [show (c * 2 + i) / 2 = c by omega, show (c * 2 + i) % 2 = i by omega]
  rfl
theorem visits_end (n : Nat) : (Kn.visitsL n).drop (n * 2) = [] := by
  rw [visits_map]; exact List.drop_eq_nil_of_le (by simp; omega)
theorem rings_step {t : Kn.Tg} {c i arc : Nat} {l : List (Nat × Nat)} {W : Kn.Wl} {R : Nat × Kn.Wl} (h : Kn.ringsF t ((c, i) :: l) arc W = some R) :
    (W.inn.getD (c * 2 + i) 0 < 0 ∧ ∃ e W', Kn.ringF t c i arc W = some (e, W') ∧ Kn.ringsF t l e W' = some R) ∨ (¬ W.inn.getD (c * 2 + i) 0 < 0 ∧ Kn.ringsF t l arc W = some R) := by
  rw [Kn.ringsF] at h
  split at h
  · rename_i hn
    refine .inl ⟨hn, ?_⟩
    split at h
    · cases h
    · rename_i e W' he
      exact ⟨e, W', he, h⟩
  · rename_i hn
    exact .inr ⟨hn, h⟩
theorem diag_rings {t : Kn.Tg} {X : List Kn.Cr} {L : Nat} (h : t.diagramC = some (X, L)) : ∃ e W, Kn.ringsF t (Kn.visitsL t.many) 1 ⟨List.replicate (4 * t.many) 0, List.replicate (2 * t.many) (-1)⟩ = some (e, W) ∧ (∀ x ∈ W.inn, 0 ≤ x ∧ x < 4) ∧ (∀ x ∈ t.places, x < 4) ∧ X = (List.range t.many).map (Kn.crossF W) ∧ L = t.loops := by
  unfold Kn.Tg.diagramC at h
  split at h
  · cases h
  · rename_i e W he
    split at h
    · rename_i hc
      cases h
      refine ⟨e, W, he, fun x hx => ?_, fun x hx => ?_, rfl, rfl⟩
      · exact of_decide_eq_true (List.all_eq_true.1 (Bool.and_eq_true _ _ ▸ hc).1 x hx)
      · exact of_decide_eq_true (List.all_eq_true.1 (Bool.and_eq_true _ _ ▸ hc).2 x hx)
    · cases h
end Go.Proofs.Ytcfpdeeipbekfaa
