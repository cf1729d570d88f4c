/- Words for the diagram of a tangle: its crossings. -/
import Derived.Test.YtcfpdeeipbekfaaT9a
import Derived.Test.YtcfpdeeipbekfaaW40
import Derived.Test.YtcfpdeeipbekfaaMAlld
namespace Go.Proofs.Ytcfpdeeipbekfaa
open Go.RowKit

theorem crCells_snoc (X : List Kn.Cr) (x : Kn.Cr) : crCells (X ++ [x]) = crCells X ++ [.int .i64 x.a, .int .i64 x.b, .int .i64 x.c, .int .i64 x.d, .bool x.p] := by
  apply List.ext_getElem?
  intro j
  by_cases c : j < X.length * 5
  · rw [crCells_at (by simp; omega), List.getElem?_append_left (by rw [crCells_length]; exact c), crCells_at c]
    have : Kn.cr (X ++ [x]) (j / 5) = Kn.cr X (j / 5) := by
      unfold Kn.cr
      rw [List.getD_eq_getElem?_getD, List.getD_eq_getElem?_getD, List.getElem?_append_left (by omega)]
    unfold crFn
    rw [this]
  · by_cases c' : j < X.length * 5 + 5
    · rw [crCells_at (by simp; omega), List.getElem?_append_right (by rw [crCells_length]; omega), crCells_length]
      have e1 : j / 5 = X.length := by omega
      have : Kn.cr (X ++ [x]) (j / 5) = x := by
        unfold Kn.cr
        rw [List.getD_eq_getElem?_getD, e1]
        simp
      unfold crFn
      rw [this]
      obtain ⟨k, hk, rfl⟩ : ∃ k, k < 5 ∧ j = X.length * 5 + k := ⟨j - X.length * 5, by omega, by omega⟩
      rw [show (X.length * 5 + k) % 5 = k by omega, show X.length * 5 + k - X.length * 5 = k by omega]
      match k, hk with
      | 0, _ => rfl
      | 1, _ => rfl
      | 2, _ => rfl
      | 3, _ => rfl
      | 4, _ => rfl
    · rw [List.getElem?_eq_none (by rw [crCells_length]; simp; omega), List.getElem?_eq_none (by simp [crCells_length]; omega)]
theorem five_cells {w : World} {a b c d e : Value} {t : TypeId} {B : Nat} (hB : B = w.heap.size) : ∀ (j : Nat) (u : Value), [a, b, c, d, e][j]? = some u → (w.alloc (.cells #[a, b, c, d, e] t)).cell? ((⟨B, 0, none⟩ : Addr).add j) = some u := by
  subst hB
  have h := heap_alloc_new w (.cells #[a, b, c, d, e] t)
  intro j u hj
  rw [addr_add, Nat.zero_add]
  match j, hj with
  | 0, hj => cases hj; exact cell_of_row _ _ 0 _ t (0, 0) h
  | 1, hj => cases hj; exact cell_of_row _ _ 1 _ t (0, 0) h
  | 2, hj => cases hj; exact cell_of_row _ _ 2 _ t (0, 0) h
  | 3, hj => cases hj; exact cell_of_row _ _ 3 _ t (0, 0) h
  | 4, hj => cases hj; exact cell_of_row _ _ 4 _ t (0, 0) h
theorem one_five (a b c d : Int) (p : Bool) : ∀ u ∈ [Value.int .i64 a, .int .i64 b, .int .i64 c, .int .i64 d, .bool p], u.oneCell' = true := by
  intro u hu
  simp only [List.mem_cons, List.not_mem_nil, or_false] at hu
  rcases hu with rfl | rfl | rfl | rfl | rfl <;> rfl
theorem box2_set {W : World} {B t : Nat} {a b : Value} (hb : W.heap[B]? = some (.cells #[a, b] t (0, 0))) (v : Value) : (W.setCell ⟨B, 0, none⟩ v).heap[B]? = some (.cells #[v, b] t (0, 0)) ∧ (W.setCell ⟨B, 1, none⟩ v).heap[B]? = some (.cells #[a, v] t (0, 0)) := by
  constructor <;> (unfold World.setCell; simp [Array.getElem?_modify, hb])
theorem row_app {W W' : World} {o : Obj} {B t base e sz n : Nat} {cs : Array Value} {v : Value} {xs : List Value} (hb : W.heap[B]? = some (.cells cs t (0, 0))) (h : W.ownsRow base e sz v n xs) (hne : e ≠ t) (hg : (W.alloc o).grownBy W' v.ownBlock) : W'.heap[B]? = some (.cells cs t (0, 0)) := by
  have hl := (Array.getElem?_eq_some_iff.1 hb).1
  exact (hg.block B (by simp; omega) fun ek => blk_not_own hb h hne ek.symm).trans ((Below.heap_alloc _ _ _ hl).trans hb)
theorem WkAt.fr {B0 wb b mt nn mp np ab ib n : Nat} {w w' : World} {v : Value} {t : Kn.Tg} {W : Kn.Wl} {S : Nat → Prop} (h : WkAt B0 w wb b mt nn mp np ab ib n v t W) (hf : Fr S w w') (h1 : ¬ S wb) (h2 : ¬ S b) (h3 : ¬ S mt) (h4 : ¬ S mp) (h5 : ¬ S ab) (h6 : ¬ S ib) (h7 : ∀ k, v.ownBlock = some k → ¬ S k) :
    WkAt B0 w' wb b mt nn mp np ab ib n v t W :=
  ⟨hf.blk h.blk h1, ⟨hf.row h.tg.row h2, hf.owns h.tg.own h7, h.tg.tie.fr hf h3, h.tg.len, h.tg.plen, h.tg.lb, h.tg.lm⟩, h.pm.fr hf h4, hf.row h.arcs h5, hf.row h.inn h6, h.la, h.li, h.hn⟩
/- what the last loop holds: the crossings so far in the box db -/
structure DgI (w w0 wr : World) (B0 wb b mt nn mp np ab ib n db : Nat) (v : Value) (t : Kn.Tg) (W : Kn.Wl) (sv : Value) (Y : List Kn.Cr) : Prop where
  wk : WkAt B0 wr wb b mt nn mp np ab ib n v t W
  box : wr.heap[db]? = some (.cells #[sv, .int .i64 (t.loops : Nat)] 29 (0, 0))
  own : wr.ownsRow w0.heap.size 81 5 sv Y.length (crCells Y)
  new : New w0 wr
  db0 : w0.heap.size ≤ db
  old : ∀ k, v.ownBlock = some k → k < w.heap.size
section
variable {w w0 wr w' : World} {B0 wb b mt nn mp np ab ib n db : Nat} {v sv : Value} {t : Kn.Tg} {W : Kn.Wl} {Y : List Kn.Cr}
theorem DgI.nw (h : DgI w w0 wr B0 wb b mt nn mp np ab ib n db v t W sv Y) (hf : New wr w') : DgI w w0 w' B0 wb b mt nn mp np ab ib n db v t W sv Y :=
  ⟨h.wk.new hf, hf.blk h.box fun x => x, hf.owns h.own fun _ _ x => x, h.new.trans hf, h.db0, h.old⟩
theorem DgI.app (h : DgI w w0 wr B0 wb b mt nn mp np ab ib n db v t W sv Y) {w7 : World} {o : Obj} {v' : Value} {x : Kn.Cr} (hB : w.heap.size ≤ w0.heap.size)
    (hown : w7.ownsRow w0.heap.size 81 5 v' (Y.length + 1) (crCells Y ++ [.int .i64 x.a, .int .i64 x.b, .int .i64 x.c, .int .i64 x.d, .bool x.p])) (hg : (wr.alloc o).grownBy w7 sv.ownBlock) :
    w7.heap[db]? = some (.cells #[sv, .int .i64 (t.loops : Nat)] 29 (0, 0)) ∧ DgI w w0 (w7.setCell ⟨db, 0, none⟩ v') B0 wb b mt nn mp np ab ib n db v t W v' (Y ++ [x]) := by
  have hb7 := row_app h.box h.own (by decide) hg
  have hnw : New w0 w7 := (h.new.alloc o).grown hg fun k ek => .inr (own_lb h.own k ek)
  have hF : Fr (fun k => sv.ownBlock = some k) wr w7 := ((Fr.refl _ wr).alloc o).grown hg fun k e => .inl e
  have hS : Fr (fun k => k = db) w7 (w7.setCell ⟨db, 0, none⟩ v') := (Fr.refl (fun k => k = db) w7).setCell (.inl rfl) _
  obtain ⟨e1, c1, m1⟩ := h.wk.tg.tie.block
  obtain ⟨e2, c2, m2⟩ := h.wk.pm.block
  have hlt : ∀ k, v.ownBlock = some k → ¬ sv.ownBlock = some k := fun k hk e => by
    have := h.old k hk
    have := own_lb h.own k e
    omega
  have h7 : WkAt B0 w7 wb b mt nn mp np ab ib n v t W := h.wk.fr hF (fun e => blk_not_own h.wk.blk h.own (by decide) e) (fun e => own_ne h.own h.wk.tg.row (by decide) _ e rfl) (fun e => own_not_map h.own m1 _ e rfl) (fun e => own_not_map h.own m2 _ e rfl) (fun e => own_ne h.own h.wk.arcs (by decide) _ e rfl) (fun e => own_ne h.own h.wk.inn (by decide) _ e rfl) hlt
  obtain ⟨e3, c3, m3⟩ := h7.tg.tie.block
  obtain ⟨e4, c4, m4⟩ := h7.pm.block
  refine ⟨hb7, h7.fr hS (fun e => ?_) (fun e => blk_ne hb7 h7.tg.row (by decide) e.symm) (fun e => ?_) (fun e => ?_) (fun e => blk_ne hb7 h7.arcs (by decide) e.symm) (fun e => blk_ne hb7 h7.inn (by decide) e.symm) (fun k hk e => ?_), (box2_set hb7 v').1, ?_, hnw.setCell (.inr h.db0) _, h.db0, h.old⟩
  · have := h7.blk; rw [e, hb7] at this; cases this
  · rw [e, hb7] at m3; cases m3
  · rw [e, hb7] at m4; cases m4
  · have := h.old k hk
    have := h.db0
    omega
  · rw [List.length_append, List.length_singleton, crCells_snoc]
    exact hS.owns hown fun k hk e => blk_not_own hb7 hown (by decide) (e ▸ hk)
end
theorem crossF_eq {W : Kn.Wl} {c i b0 b1 b2 b3 : Nat} {qa qb qc qd : Int} (hi : W.inn.getD (c * 2) 0 = (i : Nat)) (h0 : b0 = W.arcs.getD (c * 4) 0) (h1 : b1 = W.arcs.getD (c * 4 + 1) 0) (h2 : b2 = W.arcs.getD (c * 4 + 2) 0) (h3 : b3 = W.arcs.getD (c * 4 + 3) 0)
    (hq : Kn.turnC ⟨b0, b1, b2, b3, false⟩ i = ⟨qa, qb, qc, qd, false⟩) {p : Bool} (hp : p = decide ((W.inn.getD (c * 2 + 1) 0 - W.inn.getD (c * 2) 0 + 4) % 4 = 3)) : Kn.crossF W c = ⟨qa, qb, qc, qd, p⟩ := by
  have hs : ∀ s, s < 4 → ((W.arcs.getD (c * 4 + s) 0 : Nat) : Int) = arcI b0 b1 b2 b3 s := fun s hs => by
    unfold arcI
    match s, hs with
    | 0, _ => rw [if_pos rfl, h0]; rfl
    | 1, _ => rw [if_neg (by decide), if_pos rfl, h1]
    | 2, _ => rw [if_neg (by decide), if_neg (by decide), if_pos rfl, h2]
    | 3, _ => rw [if_neg (by decide), if_neg (by decide), if_neg (by decide), h3]
  rw [arcI_turn] at hq
  injection hq with e1 e2 e3 e4
  unfold Kn.crossF
  simp only [hi, Int.toNat_natCast]
  rw [hi] at hp
  rw [hp, hs _ (Nat.mod_lt _ (by decide)), hs _ (Nat.mod_lt _ (by decide)), hs _ (Nat.mod_lt _ (by decide)), hs _ (Nat.mod_lt _ (by decide)), Nat.zero_add, e1, e2, e3, e4]
theorem box5_set4 {W : World} {B t : Nat} {a b c d e : Value} (h : W.heap[B]? = some (.cells #[a, b, c, d, e] t (0, 0))) (e' : Value) : (W.setCell ⟨B, 4, none⟩ e').heap[B]? = some (.cells #[a, b, c, d, e'] t (0, 0)) := by
  unfold World.setCell; simp [Array.getElem?_modify, h]
end Go.Proofs.Ytcfpdeeipbekfaa
