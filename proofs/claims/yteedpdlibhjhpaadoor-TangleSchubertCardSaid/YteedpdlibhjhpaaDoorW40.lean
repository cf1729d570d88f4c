/- Words for the diagram of a tangle: what it makes first. -/
import Derived.Test.YteedpdlibhjhpaaDoorT8
import Derived.Test.YteedpdlibhjhpaaDoorMAll
/- Words for the diagram of a tangle: what it makes first. -/
namespace Go.Proofs.YteedpdlibhjhpaaDoor
open Go.RowKit

theorem Tryd.info69 : (Tryd.prog.info? 69).map (fun i => (i.zero, i.size, i.bytes)) = some (some (.agg #[.int .i64 0, .int .i64 0]), 2, 16) := by kernel_rfl
abbrev z4 : Array Value := #[.int .i64 0, .int .i64 0, .int .i64 0, .int .i64 0]
abbrev z2 : Array Value := #[.int .i64 0, .int .i64 0]
theorem make65 (m : Nat) (hm : m ≤ 1000) (w : World) : (Instr.makeSlice 65 (.int .i64 (m : Int)) (.int .i64 (m : Int))).run Tryd.prog w = .ok (.slice (some ⟨w.heap.size, 0, none⟩) m m) (w.alloc (.cells (madeCells z4 (m * 4)) 68)) := by
  obtain ⟨i, hi, h1, h2, h3⟩ := info_parts Tryd.info68
  have hr := run_make (P := Tryd.prog) w 65 68 i _ Tryd.underlying65 hi h1 .i64 .i64 m m (by omega) (Int.le_refl _) (by rw [h3]; omega) (by omega)
  simp only [Int.toNat_natCast, h2] at hr
  exact hr
theorem make73 (m : Nat) (hm : m ≤ 1000) (w : World) : (Instr.makeSlice 73 (.int .i64 (m : Int)) (.int .i64 (m : Int))).run Tryd.prog w = .ok (.slice (some ⟨w.heap.size, 0, none⟩) m m) (w.alloc (.cells (madeCells z2 (m * 2)) 69)) := by
  obtain ⟨i, hi, h1, h2, h3⟩ := info_parts Tryd.info69
  have hr := run_make (P := Tryd.prog) w 73 69 i _ Tryd.underlying73 hi h1 .i64 .i64 m m (by omega) (Int.le_refl _) (by rw [h3]; omega) (by omega)
  simp only [Int.toNat_natCast, h2] at hr
  exact hr
theorem zeros4 (m j : Nat) (h : j < m) : (madeCells z4 m)[j]? = some (.int .i64 0) := by
  have e : (madeCells z4 m)[j]? = some (z4[j % 4]!) := by simp [madeCells, h]
  rw [e]
  have h4 : j % 4 = 0 ∨ j % 4 = 1 ∨ j % 4 = 2 ∨ j % 4 = 3 := by omega
  rcases h4 with h | h | h | h <;> rw [h] <;> rfl
theorem zeros2 (m j : Nat) (h : j < m) : (madeCells z2 m)[j]? = some (.int .i64 0) := by
  have e : (madeCells z2 m)[j]? = some (z2[j % 2]!) := by simp [madeCells, h]
  rw [e]
  rcases Nat.mod_two_eq_zero_or_one j with h | h <;> rw [h] <;> rfl
/- of three things made one behind the other and a box behind them -/
theorem al4 (w : World) (x y z c : Obj) : New w ((((w.alloc x).alloc y).alloc z).alloc c) ∧ ((((w.alloc x).alloc y).alloc z).alloc c).heap[w.heap.size]? = some x ∧ ((((w.alloc x).alloc y).alloc z).alloc c).heap[w.heap.size + 1]? = some y ∧
    ((((w.alloc x).alloc y).alloc z).alloc c).heap[w.heap.size + 1 + 1]? = some z ∧ ((((w.alloc x).alloc y).alloc z).alloc c).heap[w.heap.size + 1 + 1 + 1]? = some c := by
  have e1 : (w.alloc x).heap.size = w.heap.size + 1 := by simp
  have e2 : ((w.alloc x).alloc y).heap.size = w.heap.size + 1 + 1 := by simp
  have e3 : (((w.alloc x).alloc y).alloc z).heap.size = w.heap.size + 1 + 1 + 1 := by simp
  refine ⟨((((Fr.refl _ _).alloc _).alloc _).alloc _).alloc _, ?_, ?_, ?_, ?_⟩
  · exact ((((Fr.refl (fun _ => False) _).alloc _).alloc _).alloc _).blk (heap_alloc_new w x) fun x => x
  · rw [← e1]; exact (((Fr.refl (fun _ => False) _).alloc _).alloc _).blk (heap_alloc_new _ y) fun x => x
  · rw [← e2]; exact ((Fr.refl (fun _ => False) _).alloc _).blk (heap_alloc_new _ z) fun x => x
  · rw [← e3]; exact heap_alloc_new _ c
/- a walker that has only been made -/
def Made (w wx : World) (b n : Nat) (s3 : Value) : Prop := ∃ wb mp ab ib, s3 = .pointer (some ⟨wb, 0, none⟩) ∧ New w wx ∧ (w.heap.size ≤ wb ∧ w.heap.size ≤ mp ∧ w.heap.size ≤ ab ∧ w.heap.size ≤ ib) ∧
  wx.heap[wb]? = some (.cells #[.pointer (some ⟨b, 0, none⟩), .map (some mp), .slice (some ⟨ab, 0, none⟩) n n, .slice (some ⟨ib, 0, none⟩) n n] 75 (0, 0)) ∧ wx.heap[mp]? = some (.map #[] 0) ∧
  wx.heap[ab]? = some (.cells (madeCells z4 (n * 4)) 68 (0, 0)) ∧ wx.heap[ib]? = some (.cells (madeCells z2 (n * 2)) 69 (0, 0))
theorem Made.drew {w wx : World} {b n : Nat} {s3 : Value} (h : Made w wx b n s3) : Made w wx.drew b n s3 := by
  obtain ⟨wb, mp, ab, ib, h1, h2, h3, h4, h5, h6, h7⟩ := h
  exact ⟨wb, mp, ab, ib, h1, h2.drew, h3, h4, h5, h6, h7⟩
/- a walker before it walks: the places up to k are known, the first m of 'in' are -1 -/
structure WkP (B0 : Nat) (w : World) (wb b mt nn mp np ab ib n k m : Nat) (v : Value) (t : Kn.Tg) : Prop where
  blk : w.heap[wb]? = some (.cells #[.pointer (some ⟨b, 0, none⟩), .map (some mp), .slice (some ⟨ab, 0, none⟩) n n, .slice (some ⟨ib, 0, none⟩) n n] 75 (0, 0))
  tg : TgAt B0 w b mt nn v t
  pm : PmMap w mp np (Kn.placeF t.places k)
  arcs : w.rowIs ab 68 (4 * n) (fun _ => .int .i64 0)
  inn : w.rowIs ib 69 (2 * n) (fun j => .int .i64 (if j < m then -1 else 0))
  hn : n = t.many
theorem Made.start {B0 : Nat} {w wx : World} {b mt nn n : Nat} {v s3 : Value} {t : Kn.Tg} (h : Made w wx b n s3) (ht : TgAt B0 w b mt nn v t) (hn : n = t.many) : ∃ wb mp ab ib, s3 = .pointer (some ⟨wb, 0, none⟩) ∧ New w wx ∧ (w.heap.size ≤ wb ∧ w.heap.size ≤ mp ∧ w.heap.size ≤ ab ∧ w.heap.size ≤ ib) ∧ WkP B0 wx wb b mt nn mp 0 ab ib n 0 0 v t := by
  obtain ⟨wb, mp, ab, ib, h1, h2, h3, h4, h5, h6, h7⟩ := h
  refine ⟨wb, mp, ab, ib, h1, h2, h3, ⟨h4, ht.new h2, ⟨_, ⟨#[], 0, h5, ⟨by simp, Go.MapKept.stamped_empty 0, by simp⟩, Nat.le_refl _, rfl⟩, PmD.empty⟩, ⟨_, h6, by rw [size_madeCells]; omega, fun i hi => zeros4 _ _ (by omega)⟩, ⟨_, h7, by rw [size_madeCells]; omega, fun i hi => ?_⟩, hn⟩⟩
  rw [zeros2 _ _ (by omega)]
  show _ = some (Value.int .i64 (if i < 0 then -1 else 0))
  rw [if_neg (by omega)]
section
variable {B0 wb b mt nn mp np ab ib n k m : Nat} {w w' : World} {v : Value} {t : Kn.Tg}
theorem WkP.new (h : WkP B0 w wb b mt nn mp np ab ib n k m v t) (hf : New w w') : WkP B0 w' wb b mt nn mp np ab ib n k m v t :=
  ⟨hf.blk h.blk fun x => x, h.tg.new hf, h.pm.fr hf fun x => x, hf.row h.arcs fun x => x, hf.row h.inn fun x => x, h.hn⟩
theorem WkP.place (h : WkP B0 w wb b mt nn mp np ab ib n k m v t) (h0 : 0 < n) : ∃ g c, v = .slice (some ⟨g, 0, none⟩) n c ∧ ∀ k, k < 4 * n → w.cell? ⟨g, k, none⟩ = some (.int .i64 (t.places.getD k 9 : Nat)) := by
  have ho := h.tg.own
  rw [← h.hn] at ho
  have hl := h.tg.plen
  rw [← h.hn] at hl
  rcases ho.2 with ⟨rfl, h1⟩ | ⟨g, cap, cur, rfl, _⟩
  · omega
  · refine ⟨g, cap, rfl, fun k hk => ?_⟩
    have := World.ownsRow.cells ho (g := g) rfl k (.int .i64 (t.places.getD k 9 : Nat)) (by
      unfold nums
      rw [List.getElem?_map, List.getD_eq_getElem?_getD, List.getElem?_eq_getElem (by omega)]; rfl)
    rwa [addr_add, Nat.zero_add] at this
theorem WkP.ne (h : WkP B0 w wb b mt nn mp np ab ib n k m v t) : wb ≠ ib ∧ b ≠ ib ∧ mt ≠ ib ∧ mp ≠ ib ∧ ab ≠ ib ∧ wb ≠ mp ∧ b ≠ mp ∧ ab ≠ mp ∧ ib ≠ mp := by
  have hm : ∀ {m : Nat} {es ck}, w.heap[m]? = some (.map es ck) → m ≠ ib := fun hb e => by
    obtain ⟨cs, hc, _⟩ := h.inn
    subst e; rw [hb] at hc; cases hc
  obtain ⟨e1, c1, h1⟩ := h.tg.tie.block
  obtain ⟨e2, c2, h2⟩ := h.pm.block
  have hr : ∀ {B t n : Nat} {f : Nat → Value}, w.rowIs B t n f → B ≠ mp := fun hb e => by
    obtain ⟨cs, hc, _⟩ := hb
    subst e; rw [h2] at hc; cases hc
  exact ⟨blk_ne h.blk h.inn (by decide), rowIs_ne h.tg.row h.inn (by decide), hm h1, hm h2, rowIs_ne h.arcs h.inn (by decide), (fun e => by have hb := h.blk; rw [e, h2] at hb; cases hb), hr h.tg.row, hr h.arcs, hr h.inn⟩
theorem WkP.setI2 (h : WkP B0 w wb b mt nn mp np ab ib n k m v t) {c : Nat} (hm : m = c * 2) : WkP B0 ((w.setCell ⟨ib, c * 2, none⟩ (.int .i64 (-1))).setCell ⟨ib, c * 2 + 1, none⟩ (.int .i64 (-1))) wb b mt nn mp np ab ib n k ((c + 1) * 2) v t := by
  obtain ⟨n1, n2, n3, n4, n5, _⟩ := h.ne
  have hF : Fr (fun k => k = ib) w ((w.setCell ⟨ib, c * 2, none⟩ (.int .i64 (-1))).setCell ⟨ib, c * 2 + 1, none⟩ (.int .i64 (-1))) := ((Fr.refl (fun k => k = ib) w).setCell (a := ⟨ib, c * 2, none⟩) (.inl rfl) _).setCell (a := ⟨ib, c * 2 + 1, none⟩) (.inl rfl) _
  refine ⟨hF.blk h.blk n1, ⟨hF.row h.tg.row n2, hF.owns h.tg.own fun k hk => YteedpdlibhjhpaaDoor.own_ne h.tg.own h.inn (by decide) k hk, h.tg.tie.fr hF n3, h.tg.len, h.tg.plen, h.tg.lb, h.tg.lm⟩, h.pm.fr hF n4, hF.row h.arcs n5, rowIs_congr ((h.inn.set (c * 2) _).set (c * 2 + 1) _) fun j hj => ?_, h.hn⟩
  by_cases c1 : j = c * 2 + 1
  · rw [if_pos c1, if_pos (by omega)]
  · rw [if_neg c1]
    by_cases c2 : j = c * 2
    · rw [if_pos c2, if_pos (by omega)]
    · rw [if_neg c2]
      by_cases c3 : j < m
      · rw [if_pos c3, if_pos (by omega)]
      · rw [if_neg c3, if_neg (by omega)]
theorem WkP.putM (h : WkP B0 w wb b mt nn mp np ab ib n k m v t) {np' : Nat} {f : Kn.Pl → Option Nat} (hf : Fr (fun k => k = mp) w w') (hm : PmMap w' mp np' f) (hmt : mt ≠ mp) {k' : Nat} (he : f = Kn.placeF t.places k') : WkP B0 w' wb b mt nn mp np' ab ib n k' m v t := by
  obtain ⟨_, _, _, _, _, n6, n7, n8, n9⟩ := h.ne
  obtain ⟨es, ck, hb⟩ := h.pm.block
  exact ⟨hf.blk h.blk n6, ⟨hf.row h.tg.row n7, hf.owns h.tg.own fun k hk => own_not_map h.tg.own hb k hk, h.tg.tie.fr hf hmt, h.tg.len, h.tg.plen, h.tg.lb, h.tg.lm⟩, by rw [← he]; exact hm, hf.row h.arcs n8, hf.row h.inn n9, h.hn⟩
theorem WkP.wk (h : WkP B0 w wb b mt nn mp np ab ib n (4 * n) (2 * n) v t) : WkAt B0 w wb b mt nn mp np ab ib n v t ⟨List.replicate (4 * n) 0, List.replicate (2 * n) (-1)⟩ := by
  refine ⟨h.blk, h.tg, ?_, rowIs_congr h.arcs fun j hj => ?_, rowIs_congr h.inn fun j hj => ?_, by simp, by simp, h.hn⟩
  · have := h.pm
    rw [h.hn] at this
    exact this
  · unfold numFn
    simp only
    rw [List.getD_eq_getElem?_getD, List.getElem?_replicate, if_pos hj]; rfl
  · unfold innF
    simp only
    rw [List.getD_eq_getElem?_getD, List.getElem?_replicate, if_pos hj, if_pos hj]; rfl
end
theorem placeF_succ (places : List Nat) (k : Nat) : Kn.placeF places (k + 1) = putP (Kn.placeF places k) (k / 4, places.getD k 9) (k % 4) := rfl
theorem visits_map (n : Nat) : Kn.visitsL n = (List.range (2 * n)).map fun k => (k / 2, k % 2) := by
  induction n with
  | zero => rfl
  | succ n ih =>
    unfold Kn.visitsL at ih ⊢
    rw [List.range_succ, List.flatMap_append, ih, show 2 * (n + 1) = 2 * n + 1 + 1 by omega, List.range_succ, List.range_succ]
    simp only [List.flatMap_cons, List.flatMap_nil, List.append_nil, List.map_append, List.map_cons, List.map_nil, List.append_assoc, List.cons_append, List.nil_append]
    rw [show 2 * n / 2 = n by omega, show 2 * n % 2 = 0 by omega, show (2 * n + 1) / 2 = n by omega, show (2 * n + 1) % 2 = 1 by omega]
theorem visits_drop {n c i : Nat} (hc : c < n) (hi : i < 2) : (Kn.visitsL n).drop (c * 2 + i) = (c, i) :: (Kn.visitsL n).drop (c * 2 + (i + 1)) := by
  rw [visits_map, List.drop_eq_getElem_cons (by simp; omega)]
  simp only [List.getElem_map, List.getElem_range]
  rw [show (c * 2 + i) / 2 = c by omega, show (c * 2 + i) % 2 = i by omega]
  rfl
theorem visits_end (n : Nat) : (Kn.visitsL n).drop (n * 2) = [] := by
  rw [visits_map]; exact List.drop_eq_nil_of_le (by simp; omega)
theorem rings_step {t : Kn.Tg} {c i arc : Nat} {l : List (Nat × Nat)} {W : Kn.Wl} {R : Nat × Kn.Wl} (h : Kn.ringsF t ((c, i) :: l) arc W = some R) :
    (W.inn.getD (c * 2 + i) 0 < 0 ∧ ∃ e W', Kn.ringF t c i arc W = some (e, W') ∧ Kn.ringsF t l e W' = some R) ∨ (¬ W.inn.getD (c * 2 + i) 0 < 0 ∧ Kn.ringsF t l arc W = some R) := by
  rw [Kn.ringsF] at h
  split at h
  · rename_i hn
    refine .inl ⟨hn, ?_⟩
    split at h
    · cases h
    · rename_i e W' he
      exact ⟨e, W', he, h⟩
  · rename_i hn
    exact .inr ⟨hn, h⟩
theorem diag_rings {t : Kn.Tg} {X : List Kn.Cr} {L : Nat} (h : t.diagramC = some (X, L)) : ∃ e W, Kn.ringsF t (Kn.visitsL t.many) 1 ⟨List.replicate (4 * t.many) 0, List.replicate (2 * t.many) (-1)⟩ = some (e, W) ∧ (∀ x ∈ W.inn, 0 ≤ x ∧ x < 4) ∧ (∀ x ∈ t.places, x < 4) ∧ X = (List.range t.many).map (Kn.crossF W) ∧ L = t.loops := by
  unfold Kn.Tg.diagramC at h
  split at h
  · cases h
  · rename_i e W he
    split at h
    · rename_i hc
      cases h
      refine ⟨e, W, he, fun x hx => ?_, fun x hx => ?_, rfl, rfl⟩
      · exact of_decide_eq_true (List.all_eq_true.1 (Bool.and_eq_true _ _ ▸ hc).1 x hx)
      · exact of_decide_eq_true (List.all_eq_true.1 (Bool.and_eq_true _ _ ▸ hc).2 x hx)
    · cases h
end Go.Proofs.YteedpdlibhjhpaaDoor

/- Walks: Turned (and its inner function). -/
namespace Go.Proofs.YteedpdlibhjhpaaDoor
open Go.RowKit

abbrev Bx6 (w : World) (B1 B2 : Nat) (a b c d : Int) (p : Bool) (k : Nat) : Prop :=
  w.cell? ⟨B1, 0, none⟩ = some (.int .i64 a) ∧ w.cell? ⟨B1, 1, none⟩ = some (.int .i64 b) ∧ w.cell? ⟨B1, 2, none⟩ = some (.int .i64 c) ∧ w.cell? ⟨B1, 3, none⟩ = some (.int .i64 d) ∧ w.cell? ⟨B1, 4, none⟩ = some (.bool p) ∧ w.cell? ⟨B2, 0, none⟩ = some (.int .i64 (k : Nat))
set_option maxHeartbeats 1000000 in
theorem turn1_any (i : Int) (s B1 B2 : Nat) (a b c d : Int) (p : Bool) (k : Nat) (w : World) (h : Bx6 w B1 B2 a b c d p k) (h0 : 0 ≤ i) (hi : i < 4) (hk : k < 4) (hs : (i + (k : Nat)) % 4 = (s : Nat)) :
    Calls Tryd.prog 37 #[.int .i64 i, .pointer (some ⟨B1, 0, none⟩), .pointer (some ⟨B2, 0, none⟩)] w (fun e w' => e = .returned (.int .i64 (arcI a b c d s)) ∧ New w w' ∧ Bx6 w' B1 B2 a b c d p k) := by
  have H := Lib.hid h
  obtain ⟨h1, h2, h3, h4, h5, h6⟩ := h
  have hs4 : s < 4 := by omega
  have e2 : (i + (k : Nat)).tmod 4 = (s : Nat) := by rw [Int.tmod_eq_emod_of_nonneg (by omega)]; exact hs
  go_enter Tryd.func37, Tryd.ntmps37
  go_wp2_with (go_at_call 38; refine (arc_any a b c d p s _ hs4).mono ?_; rintro e w4 ⟨rfl, hF⟩; have HF := Lib.hid hF; clear hF)
  go_ret
  obtain ⟨g1, g2, g3, g4, g5, g6⟩ := H.out
  exact ⟨rfl, HF.out, HF.out.cell g1 fun x => x, HF.out.cell g2 fun x => x, HF.out.cell g3 fun x => x, HF.out.cell g4 fun x => x, HF.out.cell g5 fun x => x, HF.out.cell g6 fun x => x⟩
theorem arcI_turn (a b c d : Int) (p : Bool) (k : Nat) : Kn.turnC ⟨a, b, c, d, p⟩ k = ⟨arcI a b c d (k % 4), arcI a b c d ((1 + k) % 4), arcI a b c d ((2 + k) % 4), arcI a b c d ((3 + k) % 4), p⟩ := rfl

theorem fr5 (W : World) (B : Nat) (a b c d e : Value) : Fr (fun k => k = B) W (((((W.setCell ⟨B, 0, none⟩ a).setCell ⟨B, 1, none⟩ b).setCell ⟨B, 2, none⟩ c).setCell ⟨B, 3, none⟩ d).setCell ⟨B, 4, none⟩ e) :=
  (((((Fr.refl (fun k => k = B) W).setCell (a := ⟨B, 0, none⟩) (.inl rfl) _).setCell (a := ⟨B, 1, none⟩) (.inl rfl) _).setCell (a := ⟨B, 2, none⟩) (.inl rfl) _).setCell (a := ⟨B, 3, none⟩) (.inl rfl) _).setCell (a := ⟨B, 4, none⟩) (.inl rfl) _
theorem Bx6.fr {w w' : World} {B B1 B2 : Nat} {a b c d : Int} {p : Bool} {k : Nat} (h : Bx6 w B1 B2 a b c d p k) (hF : Fr (fun j => j = B) w w') (h1 : ¬ B1 = B) (h2 : ¬ B2 = B) : Bx6 w' B1 B2 a b c d p k :=
  ⟨hF.cell h.1 h1, hF.cell h.2.1 h1, hF.cell h.2.2.1 h1, hF.cell h.2.2.2.1 h1, hF.cell h.2.2.2.2.1 h1, hF.cell h.2.2.2.2.2 h2⟩
theorem box5_c {W : World} {B t : Nat} {a b c d e : Value} (h : W.heap[B]? = some (.cells #[a, b, c, d, e] t (0, 0))) :
    W.cell? ⟨B, 0, none⟩ = some a ∧ W.cell? ⟨B, 1, none⟩ = some b ∧ W.cell? ⟨B, 2, none⟩ = some c ∧ W.cell? ⟨B, 3, none⟩ = some d ∧ W.cell? ⟨B, 4, none⟩ = some e ∧
    W.frozen? ⟨B, 0, none⟩ = false ∧ W.frozen? ⟨B, 1, none⟩ = false ∧ W.frozen? ⟨B, 2, none⟩ = false ∧ W.frozen? ⟨B, 3, none⟩ = false ∧ W.frozen? ⟨B, 4, none⟩ = false := by
  refine ⟨cell_of_row _ _ 0 _ t (0, 0) h, cell_of_row _ _ 1 _ t (0, 0) h, cell_of_row _ _ 2 _ t (0, 0) h, cell_of_row _ _ 3 _ t (0, 0) h, cell_of_row _ _ 4 _ t (0, 0) h, ?_, ?_, ?_, ?_, ?_⟩ <;> simp [World.frozen?, h]
theorem box5_set {W : World} {B t : Nat} {a b c d e : Value} (h : W.heap[B]? = some (.cells #[a, b, c, d, e] t (0, 0))) (a' b' c' d' e' : Value) :
    (((((W.setCell ⟨B, 0, none⟩ a').setCell ⟨B, 1, none⟩ b').setCell ⟨B, 2, none⟩ c').setCell ⟨B, 3, none⟩ d').setCell ⟨B, 4, none⟩ e').heap[B]? = some (.cells #[a', b', c', d', e'] t (0, 0)) := by
  unfold World.setCell; simp [Array.getElem?_modify, h]

set_option maxRecDepth 100000 in
set_option maxHeartbeats 4000000 in
theorem turned_any (a b c d : Int) (p : Bool) (k : Nat) (w : World) (hk : k < 4) :
    Calls Tryd.prog 26 #[.agg #[.int .i64 a, .int .i64 b, .int .i64 c, .int .i64 d, .bool p], .int .i64 (k : Nat)] w (fun e w' => e = .returned (crV (Kn.turnC ⟨a, b, c, d, p⟩ k)) ∧ New w w') := by
  go_enter Tryd.func26, Tryd.ntmps26
  go_wp2
  obtain ⟨w1, HW1⟩ : ∃ w1, Hid (w1 = ((w.alloc (.cells #[.int .i64 a, .int .i64 b, .int .i64 c, .int .i64 d, .bool p] 78)).alloc (.cells #[.int .i64 (k : Nat)] 3)).alloc (.cells #[.int .i64 0, .int .i64 0, .int .i64 0, .int .i64 0, .bool false] 78)) := ⟨_, Lib.hid rfl⟩
  rw [← HW1.out]
  have hN1 : New w w1 := by rw [HW1.out]; exact (((Fr.refl _ w).alloc _).alloc _).alloc _
  have hb1 : w1.heap[w.heap.size]? = some (.cells #[.int .i64 a, .int .i64 b, .int .i64 c, .int .i64 d, .bool p] 78 (0, 0)) := by
    rw [HW1.out]
    exact (((Fr.refl (fun _ => False) (w.alloc (.cells #[.int .i64 a, .int .i64 b, .int .i64 c, .int .i64 d, .bool p] 78))).alloc _).alloc _).blk (heap_alloc_new w _) fun x => x
  have hb2 : w1.heap[w.heap.size + 1]? = some (.cells #[.int .i64 (k : Nat)] 3 (0, 0)) := by
    have h2 := heap_alloc_new (w.alloc (.cells #[.int .i64 a, .int .i64 b, .int .i64 c, .int .i64 d, .bool p] 78)) (.cells #[.int .i64 (k : Nat)] 3)
    rw [World.size_alloc] at h2
    rw [HW1.out]
    exact ((Fr.refl (fun _ => False) _).alloc _).blk h2 fun x => x
  have hb3 : w1.heap[w.heap.size + 1 + 1]? = some (.cells #[.int .i64 0, .int .i64 0, .int .i64 0, .int .i64 0, .bool false] 78 (0, 0)) := by
    have h2 := heap_alloc_new ((w.alloc (.cells #[.int .i64 a, .int .i64 b, .int .i64 c, .int .i64 d, .bool p] 78)).alloc (.cells #[.int .i64 (k : Nat)] 3)) (.cells #[.int .i64 0, .int .i64 0, .int .i64 0, .int .i64 0, .bool false] 78)
    rw [World.size_alloc, World.size_alloc] at h2
    rw [HW1.out]
    exact h2
  have hS : Bx6 w1.drew w.heap.size (w.heap.size + 1) a b c d p k := ⟨cell_of_row _ _ 0 _ 78 (0, 0) hb1, cell_of_row _ _ 1 _ 78 (0, 0) hb1, cell_of_row _ _ 2 _ 78 (0, 0) hb1, cell_of_row _ _ 3 _ 78 (0, 0) hb1, cell_of_row _ _ 4 _ 78 (0, 0) hb1, cell_of_row _ _ 0 _ 3 (0, 0) hb2⟩
  have HR0 : Hid (w1.drew.heap[w.heap.size + 1 + 1]? = some (.cells #[.int .i64 0, .int .i64 0, .int .i64 0, .int .i64 0, .bool false] 78 (0, 0))) := Lib.hid hb3
  have HN0 : Hid (New w w1.drew) := Lib.hid hN1.drew
  clear hb1 hb2 hb3 hN1
  have hS0 : Bx6 w1.drew w.heap.size (w.heap.size + 1) a b c d p k := hS
  refine wp_region_held_drew (S := fun w' => w'.cell? ⟨w.heap.size, 0, none⟩ = some (.int .i64 a) ∧ w'.cell? ⟨w.heap.size, 1, none⟩ = some (.int .i64 b) ∧ w'.cell? ⟨w.heap.size, 2, none⟩ = some (.int .i64 c) ∧ w'.cell? ⟨w.heap.size, 3, none⟩ = some (.int .i64 d) ∧ w'.cell? ⟨w.heap.size, 4, none⟩ = some (.bool p) ∧ w'.cell? ⟨w.heap.size + 1, 0, none⟩ = some (.int .i64 (k : Nat))) (by kernel_rfl) hS0 (fun hHeld => ?_)
  have HS0 := Lib.hid hS0
  clear hS0 hS
  generalize w1.drew = r0 at hHeld HR0 HN0 HS0 ⊢
  -- BEGIN2
  refine' wpAnyH_take (i := 0) (v := _) rfl (by kernel_rfl) (by kernel_rfl) (by kernel_rfl) (fun _ _ _ h => h) (Or.inl ⟨by rfl, ?hy⟩) (by assumption) ?rest
  case hy => (intro w' hSw; (try dsimp only at hSw); go_simp <;> with_reducible rfl)
  case rest =>
  simp only [Act.put, List.getElem_toArray, List.getElem_cons_zero, List.setIfInBounds_toArray, List.set_cons_zero, List.set_cons_succ]
  refine' wpAnyH_take (i := 2) (v := _) rfl (by kernel_rfl) (by kernel_rfl) (by kernel_rfl) (fun _ _ _ h => h) (Or.inl ⟨by rfl, ?hy⟩) (by assumption) ?rest
  case hy => (intro w' hSw; (try dsimp only at hSw); go_simp <;> with_reducible rfl)
  case rest =>
  simp only [Act.put, List.getElem_toArray, List.getElem_cons_zero, List.getElem_cons_succ, List.setIfInBounds_toArray, List.set_cons_zero, List.set_cons_succ]
  refine' wpAnyH_take (i := 4) (v := _) rfl (by kernel_rfl) (by kernel_rfl) (by kernel_rfl) (fun _ _ _ h => h) (Or.inl ⟨by rfl, ?hy⟩) (by assumption) ?rest
  case hy => (intro w' hSw; (try dsimp only at hSw); go_simp <;> with_reducible rfl)
  case rest =>
  simp only [Act.put, List.getElem_toArray, List.getElem_cons_zero, List.getElem_cons_succ, List.setIfInBounds_toArray, List.set_cons_zero, List.set_cons_succ]
  refine' wpAnyH_take (i := 6) (v := _) rfl (by kernel_rfl) (by kernel_rfl) (by kernel_rfl) (fun _ _ _ h => h) (Or.inl ⟨by rfl, ?hy⟩) (by assumption) ?rest
  case hy => (intro w' hSw; (try dsimp only at hSw); go_simp <;> with_reducible rfl)
  case rest =>
  simp only [Act.put, List.getElem_toArray, List.getElem_cons_zero, List.getElem_cons_succ, List.setIfInBounds_toArray, List.set_cons_zero, List.set_cons_succ]
  refine' wpAnyH_take (i := 8) (v := _) rfl (by kernel_rfl) (by kernel_rfl) (by kernel_rfl) (fun _ _ _ h => h) (Or.inl ⟨by rfl, ?hy⟩) (by assumption) ?rest
  case hy => (intro w' hSw; (try dsimp only at hSw); go_simp <;> with_reducible rfl)
  case rest =>
  simp only [Act.put, List.getElem_toArray, List.getElem_cons_zero, List.getElem_cons_succ, List.setIfInBounds_toArray, List.set_cons_zero, List.set_cons_succ]
  refine' wpAnyH_take (i := 9) (v := _) rfl (by kernel_rfl) (by kernel_rfl) (by kernel_rfl) (fun _ _ _ h => h) (Or.inl ⟨by rfl, ?hy⟩) (by assumption) ?rest
  case hy => (intro w' hSw; (try dsimp only at hSw); go_simp <;> with_reducible rfl)
  case rest =>
  simp only [Act.put, List.getElem_toArray, List.getElem_cons_zero, List.getElem_cons_succ, List.setIfInBounds_toArray, List.set_cons_zero, List.set_cons_succ]
  refine wpAnyH_ready (rs := [1]) (by kernel_rfl) (by simp) ?_
  refine AllReadyH.cons rfl (fun K hK => ?_) AllReadyH.nil
  (try simp only [List.getElem_toArray, List.getElem_cons_zero, List.getElem_cons_succ])
  go_simp
  refine (turn1_any 0 (k % 4) _ _ a b c d p k _ HS0.out (by omega) (by omega) hk (by omega)).mono ?_
  rintro e r1 ⟨rfl, hF, hq⟩
  have HS1 := Lib.hid hq
  have HR1 := Lib.hid (hF.blk HR0.out fun x => x)
  have HN1 := Lib.hid (HN0.out.trans hF)
  clear hF hq
  go_wp2_with fail
  refine hK.out _ _ HS1.out (fun hHeld => ?_)
  clear hK K
  (try simp only [Act.put, List.getElem_toArray, List.getElem_cons_zero, List.getElem_cons_succ, List.setIfInBounds_toArray, List.set_cons_zero, List.set_cons_succ])
  refine wpAnyH_ready (rs := [3]) (by kernel_rfl) (by simp) ?_
  refine AllReadyH.cons rfl (fun K hK => ?_) AllReadyH.nil
  (try simp only [List.getElem_toArray, List.getElem_cons_zero, List.getElem_cons_succ])
  go_simp
  refine (turn1_any 1 ((1 + k) % 4) _ _ a b c d p k _ HS1.out (by omega) (by omega) hk (by omega)).mono ?_
  rintro e r2 ⟨rfl, hF, hq⟩
  have HS2 := Lib.hid hq
  have HR2 := Lib.hid (hF.blk HR1.out fun x => x)
  have HN2 := Lib.hid (HN1.out.trans hF)
  clear hF hq
  go_wp2_with fail
  refine hK.out _ _ HS2.out (fun hHeld => ?_)
  clear hK K
  (try simp only [Act.put, List.getElem_toArray, List.getElem_cons_zero, List.getElem_cons_succ, List.setIfInBounds_toArray, List.set_cons_zero, List.set_cons_succ])
  refine wpAnyH_ready (rs := [5]) (by kernel_rfl) (by simp) ?_
  refine AllReadyH.cons rfl (fun K hK => ?_) AllReadyH.nil
  (try simp only [List.getElem_toArray, List.getElem_cons_zero, List.getElem_cons_succ])
  go_simp
  refine (turn1_any 2 ((2 + k) % 4) _ _ a b c d p k _ HS2.out (by omega) (by omega) hk (by omega)).mono ?_
  rintro e r3 ⟨rfl, hF, hq⟩
  have HS3 := Lib.hid hq
  have HR3 := Lib.hid (hF.blk HR2.out fun x => x)
  have HN3 := Lib.hid (HN2.out.trans hF)
  clear hF hq
  go_wp2_with fail
  refine hK.out _ _ HS3.out (fun hHeld => ?_)
  clear hK K
  (try simp only [Act.put, List.getElem_toArray, List.getElem_cons_zero, List.getElem_cons_succ, List.setIfInBounds_toArray, List.set_cons_zero, List.set_cons_succ])
  refine wpAnyH_ready (rs := [7]) (by kernel_rfl) (by simp) ?_
  refine AllReadyH.cons rfl (fun K hK => ?_) AllReadyH.nil
  (try simp only [List.getElem_toArray, List.getElem_cons_zero, List.getElem_cons_succ])
  go_simp
  refine (turn1_any 3 ((3 + k) % 4) _ _ a b c d p k _ HS3.out (by omega) (by omega) hk (by omega)).mono ?_
  rintro e r4 ⟨rfl, hF, hq⟩
  have HS4 := Lib.hid hq
  have HR4 := Lib.hid (hF.blk HR3.out fun x => x)
  have HN4 := Lib.hid (HN3.out.trans hF)
  clear hF hq
  go_wp2_with fail
  refine hK.out _ _ HS4.out (fun hHeld => ?_)
  clear hK K
  (try simp only [Act.put, List.getElem_toArray, List.getElem_cons_zero, List.getElem_cons_succ, List.setIfInBounds_toArray, List.set_cons_zero, List.set_cons_succ])
  refine' wpAnyH_take (i := 10) (v := _) rfl (by kernel_rfl) (by kernel_rfl) (by kernel_rfl) (fun _ _ _ h => h) (Or.inl ⟨by rfl, ?hy⟩) (by assumption) ?rest
  case hy => (intro w' hSw; (try dsimp only at hSw); go_simp <;> with_reducible rfl)
  case rest =>
  simp only [Act.put, List.getElem_toArray, List.getElem_cons_zero, List.getElem_cons_succ, List.setIfInBounds_toArray, List.set_cons_zero, List.set_cons_succ]
  refine wpAnyH_ready (rs := [11]) (by kernel_rfl) (by simp) ?_
  refine AllReadyH.cons rfl (fun K hK => ?_) AllReadyH.nil
  (try simp only [List.getElem_toArray, List.getElem_cons_zero, List.getElem_cons_succ])
  obtain ⟨q1, q2, q3, q4, q5, q6, q7, q8, q9, q10⟩ := box5_c HR4.out
  go_simp
  have HE := Lib.hid (box5_set HR4.out (.int .i64 (arcI a b c d (k % 4))) (.int .i64 (arcI a b c d ((1 + k) % 4))) (.int .i64 (arcI a b c d ((2 + k) % 4))) (.int .i64 (arcI a b c d ((3 + k) % 4))) (.bool p))
  have HF := Lib.hid (fr5 r4 (w.heap.size + 1 + 1) (.int .i64 (arcI a b c d (k % 4))) (.int .i64 (arcI a b c d ((1 + k) % 4))) (.int .i64 (arcI a b c d ((2 + k) % 4))) (.int .i64 (arcI a b c d ((3 + k) % 4))) (.bool p))
  clear q1 q2 q3 q4 q5 q6 q7 q8 q9 q10
  refine hK.out _ _ (Bx6.fr HS4.out HF.out (by omega) (by omega)) (fun hHeld => ?_)
  clear hK K
  (try simp only [Act.put, List.getElem_toArray, List.getElem_cons_zero, List.getElem_cons_succ, List.setIfInBounds_toArray, List.set_cons_zero, List.set_cons_succ])
  refine wpAnyH_done (by kernel_rfl) ?_ _
  obtain ⟨q1, q2, q3, q4, q5, _⟩ := box5_c HE.out
  have HN5 : Hid (New w _) := Lib.hid (HN4.out.next HF.out fun i hi => .inr (by omega))
  -- END2
  go_wp2
  exact bodyPost_ret (v := crV (Kn.turnC ⟨a, b, c, d, p⟩ k)) (by simp [results, Tryd.results26, go_sem, q1, q2, q3, q4, q5, arcI_turn]) rfl ⟨rfl, HN5.out⟩
end Go.Proofs.YteedpdlibhjhpaaDoor
