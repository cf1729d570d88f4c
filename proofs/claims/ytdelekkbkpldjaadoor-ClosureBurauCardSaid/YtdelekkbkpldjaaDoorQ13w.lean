/- Words for Burau's table at work: rows of polynomials, the four of a letter, rows of lists of terms. -/
import Derived.Test.YtdelekkbkpldjaaDoorP16
import Derived.Test.YtdelekkbkpldjaaDoorMAllc
namespace Go.Proofs.YtdelekkbkpldjaaDoor
open Go.RowKit Go.Maps

/- a row of polynomials at work, of up to 15 entries each -/
def RWc (w : World) (Rb m : Nat) (r : Nat → List Pl.T) : Prop := ∃ f, w.rowIs Rb 64 m f ∧ ∀ j, j < m → Wk w (f j) (r j) 15
theorem RWc.fr {S : Nat → Prop} {w w' : World} (h : Fr S w w') (hS : ∀ k, S k → ∃ c t, w.heap[k]? = some (.cells c t (0, 0))) {Rb m : Nat} (hR : ¬ S Rb) {r : Nat → List Pl.T} (hr : RWc w Rb m r) : RWc w' Rb m r := by
  obtain ⟨f, h1, h2⟩ := hr
  refine ⟨f, h.row h1 hR, fun j hj => ?_⟩
  obtain ⟨b, D, e, ⟨es, clock, hb, r1⟩, hd⟩ := h2 j hj
  refine ⟨b, D, e, ⟨es, clock, h.blk hb fun hs => ?_, r1⟩, hd⟩
  obtain ⟨c, t, hc⟩ := hS _ hs
  rw [hc] at hb
  cases hb
theorem RWc.new {w w' : World} (h : New w w') {Rb m : Nat} {r : Nat → List Pl.T} (hr : RWc w Rb m r) : RWc w' Rb m r := hr.fr h (fun _ x => x.elim) fun x => x
theorem RWc.congr {w : World} {Rb m : Nat} {r r' : Nat → List Pl.T} (hr : RWc w Rb m r) (h : ∀ j, j < m → r j = r' j) : RWc w Rb m r' := by
  obtain ⟨f, h1, h2⟩ := hr
  exact ⟨f, h1, fun j hj => h j hj ▸ h2 j hj⟩
theorem RWc.isCells {w : World} {Rb m : Nat} {r : Nat → List Pl.T} (hr : RWc w Rb m r) : ∃ c t, w.heap[Rb]? = some (.cells c t (0, 0)) := by
  obtain ⟨f, ⟨c, hc, _⟩, _⟩ := hr
  exact ⟨c, 64, hc⟩
/- a store into the row -/
theorem RWc.put {w : World} {Rb m i : Nat} {r : Nat → List Pl.T} (hr : RWc w Rb m r) {v : Value} {l : List Pl.T} (hv : Wk w v l 15) : RWc (w.setCell ⟨Rb, i, none⟩ v) Rb m (fun j => if j = i then l else r j) := by
  obtain ⟨f, h1, h2⟩ := hr
  refine ⟨_, h1.set i v, fun j hj => ?_⟩
  dsimp only
  by_cases c : j = i
  · rw [if_pos c, if_pos c]
    exact Wk.set hv h1 _ _
  · rw [if_neg c, if_neg c]
    exact Wk.set (h2 j hj) h1 _ _
/- the table under work: block G holds the rows; the first k of them are made -/
structure BtW (w wr : World) (G n k : Nat) (R : Nat → Nat) (T : Nat → Nat → List Pl.T) : Prop where
  row : wr.rowIs G 73 n (fun i => if i < k then .slice (some ⟨R i, 0, none⟩) n n else .slice none 0 0)
  el : ∀ i, i < k → RWc wr (R i) n (T i)
  inj : ∀ i j, i < k → j < k → R i = R j → i = j
  lo : w.heap.size ≤ G ∧ ∀ i, i < k → w.heap.size ≤ R i
  ne : ∀ i, i < k → R i ≠ G
  new : New w wr
theorem BtW.congr {w wr : World} {G n k : Nat} {R : Nat → Nat} {T T' : Nat → Nat → List Pl.T} (h : BtW w wr G n k R T) (he : ∀ i j, i < k → j < n → T i j = T' i j) : BtW w wr G n k R T' :=
  ⟨h.row, fun i hi => (h.el i hi).congr fun j hj => he i j hi hj, h.inj, h.lo, h.ne, h.new⟩
theorem BtW.nw {w wr w' : World} {G n k : Nat} {R : Nat → Nat} {T : Nat → Nat → List Pl.T} (h : BtW w wr G n k R T) (hn : New wr w') : BtW w w' G n k R T :=
  ⟨hn.row h.row fun x => x, fun i hi => (h.el i hi).new hn, h.inj, h.lo, h.ne, h.new.trans hn⟩
theorem BtW.cell {w wr : World} {G n k : Nat} {R : Nat → Nat} {T : Nat → Nat → List Pl.T} (h : BtW w wr G n k R T) {i : Nat} (hi : i < k) (hk : k ≤ n) : wr.cell? ⟨G, i, none⟩ = some (.slice (some ⟨R i, 0, none⟩) n n) := by
  have := h.row.cell (i := i) (by omega)
  rwa [if_pos hi] at this
/- one row of the table is turned, and nothing else -/
theorem BtW.turn {w wr w' : World} {G n k i : Nat} {R : Nat → Nat} {T : Nat → Nat → List Pl.T} {r : Nat → List Pl.T} (h : BtW w wr G n k R T) (hi : i < k) (hF : Fr (fun q => q = R i) wr w') (hr : RWc w' (R i) n r) : BtW w w' G n k R (fun j => if j = i then r else T j) := by
  obtain ⟨c, t, hc⟩ := (h.el i hi).isCells
  refine ⟨hF.row h.row (fun e => h.ne i hi e.symm), fun j hj => ?_, h.inj, h.lo, h.ne, h.new.next hF fun q hq => .inr (by rw [hq]; exact h.lo.2 i hi)⟩
  by_cases e : j = i
  · subst e
    rw [if_pos rfl]; exact hr
  · rw [if_neg e]
    exact (h.el j hj).fr hF (fun q hq => ⟨c, t, by rw [hq]; exact hc⟩) fun z => e (h.inj j i hj hi z)
/- a row more -/
theorem BtW.more {w wr w3 w' : World} {G n k Rb : Nat} {R : Nat → Nat} {T : Nat → Nat → List Pl.T} {O : Obj} (h : BtW w wr G n k R T) (hk : k < n) (hRb : Rb = wr.heap.size) (h3 : w3 = (wr.alloc O).setCell ⟨G, k, none⟩ (.slice (some ⟨Rb, 0, none⟩) n n))
    (hO : ∃ c t, O = .cells c t (0, 0)) (hF : Fr (fun q => q = Rb) w3 w') (hr : RWc w' Rb n (T k)) : BtW w w' G n (k + 1) (fun i => if i = k then Rb else R i) T := by
  have hG := h.row.lt
  have hGR : G ≠ Rb := by omega
  have hRi : ∀ i, i < k → R i < Rb := fun i hi => by
    obtain ⟨f, h1, _⟩ := h.el i hi
    have := h1.lt; omega
  have hA : New wr (wr.alloc O) := (Fr.refl _ _).alloc O
  have hAG := hA.row h.row fun x => x
  have hS : Fr (fun q => q = G) (wr.alloc O) w3 := by rw [h3]; exact (Fr.refl (fun q => q = G) _).setCell (a := ⟨G, k, none⟩) (.inl rfl) _
  have hszO : (wr.alloc O).heap.size = wr.heap.size + 1 := by simp
  have hsz := h.new.size
  obtain ⟨c, t, rfl⟩ := hO
  have hRbw : (wr.alloc (.cells c t)).heap[Rb]? = some (.cells c t (0, 0)) := by rw [hRb]; exact heap_alloc_new _ _
  have hRb3 : w3.heap[Rb]? = some (.cells c t (0, 0)) := hS.blk hRbw fun e => hGR e.symm
  obtain ⟨cG, hcG, _⟩ := hAG
  refine ⟨?_, fun i hi => ?_, fun i j hi hj e => ?_, ⟨h.lo.1, fun i hi => ?_⟩, fun i hi => ?_, ?_⟩
  · have h1 := hF.row (S := fun q => q = Rb) (b := G) (t := 73) (n := n) (f := fun i => if i = k then .slice (some ⟨Rb, 0, none⟩) n n else if i < k then .slice (some ⟨R i, 0, none⟩) n n else .slice none 0 0) (by rw [h3]; exact (hA.row h.row fun x => x).set k _) hGR
    refine h1.congr fun i hi => ?_
    by_cases e : i = k
    · rw [if_pos e, if_pos (by omega), if_pos e]
    · rw [if_neg e, if_neg e]
      by_cases e2 : i < k
      · rw [if_pos e2, if_pos (by omega)]
      · rw [if_neg e2, if_neg (by omega)]
  · by_cases e : i = k
    · rw [if_pos e, e]; exact hr
    · have hik : i < k := by omega
      have := hRi i hik
      rw [if_neg e]
      exact ((((h.el i hik).new hA).fr hS (fun q hq => ⟨cG, 73, by rw [hq]; exact hcG⟩) (h.ne i hik)).fr hF (fun q hq => ⟨c, t, by rw [hq]; exact hRb3⟩) (by omega))
  · by_cases e1 : i = k <;> by_cases e2 : j = k
    · omega
    · have := hRi j (by omega)
      rw [if_pos e1, if_neg e2] at e; omega
    · have := hRi i (by omega)
      rw [if_neg e1, if_pos e2] at e; omega
    · rw [if_neg e1, if_neg e2] at e
      exact h.inj i j (by omega) (by omega) e
  · split
    · omega
    · exact h.lo.2 i (by omega)
  · split
    · omega
    · exact h.ne i (by omega)
  · refine ((h.new.trans hA).next hS fun q hq => .inr (by rw [hq]; exact h.lo.1)).next hF fun q hq => .inr (by omega)
theorem make71 (m : Nat) (hm : m ≤ 1000) (w : World) : (Instr.makeSlice 71 (.int .i64 (m : Int)) (.int .i64 (m : Int))).run Tryd.prog w = .ok (.slice (some ⟨w.heap.size, 0, none⟩) m m) (w.alloc (.cells (madeCells #[.slice none 0 0] m) 73)) :=
  run_make_row' 71 73 (.slice none 0 0) 24 Tryd.underlying71 info73 rfl .i64 .i64 m (by omega) (by omega) w
/- the four polynomials of a letter, in a box -/
structure SmAt (w : World) (B : Nat) (a : Int) : Prop where
  v : ∃ v00 v01 v10 v11, w.heap[B]? = some (.cells #[v00, v01, v10, v11] 77 (0, 0)) ∧ Wk w v00 (Kn.sm a 0 0) 3 ∧ Wk w v01 (Kn.sm a 0 1) 3 ∧ Wk w v10 (Kn.sm a 1 0) 3 ∧ Wk w v11 (Kn.sm a 1 1) 3
theorem SmAt.new {w w' : World} {B : Nat} {a : Int} (h : SmAt w B a) (hn : New w w') : SmAt w' B a := by
  obtain ⟨a1, a2, a3, a4, h1, h2, h3, h4, h5⟩ := h.v
  exact ⟨a1, a2, a3, a4, hn.blk h1 fun x => x, hn.wk h2, hn.wk h3, hn.wk h4, hn.wk h5⟩
theorem box4_c {W : World} {B t : Nat} {a b c d : Value} (h : W.heap[B]? = some (.cells #[a, b, c, d] t (0, 0))) :
    W.cell? ⟨B, 0, none⟩ = some a ∧ W.cell? ⟨B, 1, none⟩ = some b ∧ W.cell? ⟨B, 2, none⟩ = some c ∧ W.cell? ⟨B, 3, none⟩ = some d ∧
    W.frozen? ⟨B, 0, none⟩ = false ∧ W.frozen? ⟨B, 1, none⟩ = false ∧ W.frozen? ⟨B, 2, none⟩ = false ∧ W.frozen? ⟨B, 3, none⟩ = false := by
  refine ⟨cell_of_row _ _ 0 _ t (0, 0) h, cell_of_row _ _ 1 _ t (0, 0) h, cell_of_row _ _ 2 _ t (0, 0) h, cell_of_row _ _ 3 _ t (0, 0) h, ?_, ?_, ?_, ?_⟩ <;> simp [World.frozen?, h]
theorem box4_set {W : World} {B t : Nat} {a b c d : Value} (h : W.heap[B]? = some (.cells #[a, b, c, d] t (0, 0))) (a' b' c' d' : Value) :
    ((((W.setCell ⟨B, 0, none⟩ a').setCell ⟨B, 1, none⟩ b').setCell ⟨B, 2, none⟩ c').setCell ⟨B, 3, none⟩ d').heap[B]? = some (.cells #[a', b', c', d'] t (0, 0)) := by
  unfold World.setCell; simp [Array.getElem?_modify, h]
theorem box4_fr (W : World) (B : Nat) (a b c d : Value) : Fr (fun k => k = B) W ((((W.setCell ⟨B, 0, none⟩ a).setCell ⟨B, 1, none⟩ b).setCell ⟨B, 2, none⟩ c).setCell ⟨B, 3, none⟩ d) :=
  ((((Fr.refl (fun k => k = B) W).setCell (a := ⟨B, 0, none⟩) (.inl rfl) _).setCell (a := ⟨B, 1, none⟩) (.inl rfl) _).setCell (a := ⟨B, 2, none⟩) (.inl rfl) _).setCell (a := ⟨B, 3, none⟩) (.inl rfl) _
/- a polynomial at work where a block of cells is turned -/
theorem Wk.frC {S : Nat → Prop} {w w' : World} {v : Value} {l : List Pl.T} {n : Nat} (h : Wk w v l n) (hF : Fr S w w') (hS : ∀ k, S k → ∃ c t, w.heap[k]? = some (.cells c t (0, 0))) : Wk w' v l n := by
  obtain ⟨b, D, rfl, ⟨es, clock, hb, r⟩, hd⟩ := h
  refine ⟨b, D, rfl, ⟨es, clock, hF.blk hb fun hs => ?_, r⟩, hd⟩
  obtain ⟨c, t, hc⟩ := hS _ hs
  rw [hc] at hb
  cases hb
theorem bur_l {xs : List Int} {k p r : Nat} {q : Int} (hq : q = xs.getD k 0) (hp : p = q.natAbs - 1) : Kn.burB xs (k + 1) r p = Pl.mul (Kn.burB xs k r p) (Kn.sm q 0 0) ++ Pl.mul (Kn.burB xs k r (p + 1)) (Kn.sm q 1 0) := by
  show Kn.stepB _ _ r p = _
  unfold Kn.stepB
  rw [← hq, ← hp, if_pos rfl]
theorem bur_r {xs : List Int} {k p r : Nat} {q : Int} (hq : q = xs.getD k 0) (hp : p = q.natAbs - 1) : Kn.burB xs (k + 1) r (p + 1) = Pl.mul (Kn.burB xs k r p) (Kn.sm q 0 1) ++ Pl.mul (Kn.burB xs k r (p + 1)) (Kn.sm q 1 1) := by
  show Kn.stepB _ _ r (p + 1) = _
  unfold Kn.stepB
  rw [← hq, ← hp, if_neg (by omega), if_pos rfl]
theorem bur_o {xs : List Int} {k p r c : Nat} {q : Int} (hq : q = xs.getD k 0) (hp : p = q.natAbs - 1) (h1 : c ≠ p) (h2 : c ≠ p + 1) : Kn.burB xs (k + 1) r c = Kn.burB xs k r c := by
  show Kn.stepB _ _ r c = _
  unfold Kn.stepB
  rw [← hq, ← hp, if_neg h1, if_neg h2]

/- bounds of a place -/
structure BuB (l : List Pl.T) : Prop where
  s : Pl.size l ≤ 16384
  e : Exps 1000 l
theorem bur_b {xs : List Int} {k : Nat} (hk : k ≤ 7) (r c : Nat) : BuB (Kn.burB xs k r c) :=
  ⟨Nat.le_trans (Kn.bur_size xs k r c) (Nat.le_trans (Nat.pow_le_pow_right (by decide) hk) (by decide)), fun t ht => by have := Kn.bur_exps xs k r c t ht; omega⟩
theorem bur_t {xs : List Int} {k : Nat} (hk : k ≤ 7) {r c n : Nat} {w : World} {v : Value} (h : Wk w v (Kn.burB xs k r c) n) : Wk w v (Kn.burB xs k r c) 15 :=
  Wk.tight (B := 7) h ((Kn.bur_exps xs k r c).mono (by omega))
theorem sm_b (q : Int) (i j : Nat) : Exps 1000 (Kn.sm q i j) := fun t ht => by have := Kn.sm_exps q i j t ht; omega
theorem mul_b {l : List Pl.T} (h : BuB l) (q : Int) (i j : Nat) : Pl.size (Pl.mul l (Kn.sm q i j)) ≤ 32768 ∧ Exps 2000 (Pl.mul l (Kn.sm q i j)) := by
  refine ⟨?_, fun t ht => ?_⟩
  · rw [Pl.size_mul]
    have := Nat.mul_le_mul h.s (Kn.sm_size q i j)
    omega
  · have := (Pl.ExpsW.mul (E := 1000) (F := 1000) h.e (sm_b q i j)) t ht
    omega
theorem New.ownT {w w' : World} (h : New w w') {b : Nat} {v : Value} {l : List Pl.T} (ho : OwnT b w v l) : OwnT b w' v l := h.owns ho fun _ _ x => x
/- rows of lists of terms, of the call's own -/
def OwnTRow (w : World) (v : Value) (r : List (List Pl.T)) : Prop := ∃ ys, OwnV 0 33 w v ys ∧ ElsP (OwnT 0 w) ys r
theorem OwnTRow.rowT {w : World} {v : Value} {r : List (List Pl.T)} (h : OwnTRow w v r) : RowT w v r := by
  obtain ⟨ys, h1, h2⟩ := h
  exact ⟨ys, h1.sl, h2.mono fun _ _ x => x.ts⟩
theorem New.ownTRow {w w' : World} (h : New w w') {v : Value} {r : List (List Pl.T)} (ho : OwnTRow w v r) : OwnTRow w' v r := by
  obtain ⟨ys, h1, h2⟩ := ho
  exact ⟨ys, h.own h1, h2.mono fun _ _ x => h.ownT x⟩
theorem ownT_kept {w w' : World} {b e : Nat} {o : Obj} {v v5 : Value} {l : List Pl.T} {xs : List Value} (he : 44 ≠ e) (h : OwnT 0 w v l) (h5 : OwnV b e w v5 xs) (hg : (w.alloc o).grownBy w' v5.ownBlock) : OwnT 0 w' v l :=
  owns_kept (World.ownsRow.alloc h o) hg (owns_ne h h5 he)
theorem OwnTRow.kept {w w' : World} {b : Nat} {o : Obj} {v v5 : Value} {r : List (List Pl.T)} {xs : List Value} (h : OwnTRow w v r) (h5 : OwnV b 41 w v5 xs) (hg : (w.alloc o).grownBy w' v5.ownBlock) : OwnTRow w' v r := by
  obtain ⟨ys, h1, h2⟩ := h
  exact ⟨ys, owns_kept (World.ownsRow.alloc h1 o) hg (owns_ne h1 h5 (by decide)), h2.mono fun _ _ x => ownT_kept (by decide) x h5 hg⟩
theorem info41t : (Tryd.prog.info? 41).map (fun i => (i.zero, i.size, i.bytes)) = some (some (.slice none 0 0), 1, 24) := by kernel_rfl
/- what the table tells -/
def RowIsB (n : Nat) (T : Nat → List Pl.T) (r : List (List Pl.T)) : Prop := r.length = n ∧ ∀ c, c < n → Pl.Is (r.getD c []) (T c)
def TabIsB (n : Nat) (T : Nat → Nat → List Pl.T) (m : Pl.Tab) : Prop := m.length = n ∧ ∀ i, i < n → RowIsB n (T i) (m.getD i [])
def PreB (k n : Nat) (T : Nat → Nat → List Pl.T) (m : Pl.Tab) : Prop := m.length = k ∧ ∀ i, i < k → RowIsB n (T i) (m.getD i [])
def PreR (k : Nat) (T : Nat → List Pl.T) (r : List (List Pl.T)) : Prop := r.length = k ∧ ∀ c, c < k → Pl.Is (r.getD c []) (T c)
theorem getD_snoc {α : Type} (l : List α) (x d : α) (i : Nat) (h : i ≤ l.length) : (l ++ [x]).getD i d = if i = l.length then x else l.getD i d := by
  rw [List.getD_eq_getElem?_getD]
  by_cases c : i = l.length
  · rw [if_pos c, c]; simp
  · rw [if_neg c, List.getElem?_append_left (by omega), List.getD_eq_getElem?_getD]
theorem PreR.snoc {k : Nat} {T : Nat → List Pl.T} {r : List (List Pl.T)} (h : PreR k T r) {m : List Pl.T} (hm : Pl.Is m (T k)) : PreR (k + 1) T (r ++ [m]) := by
  refine ⟨by rw [List.length_append, h.1]; rfl, fun c hc => ?_⟩
  rw [getD_snoc _ _ _ _ (by rw [h.1]; omega), h.1]
  by_cases e : c = k
  · rw [if_pos e, e]; exact hm
  · rw [if_neg e]; exact h.2 c (by omega)
theorem PreB.snoc {k n : Nat} {T : Nat → Nat → List Pl.T} {m : Pl.Tab} (h : PreB k n T m) {r : List (List Pl.T)} (hr : RowIsB n (T k) r) : PreB (k + 1) n T (m ++ [r]) := by
  refine ⟨by rw [List.length_append, h.1]; rfl, fun c hc => ?_⟩
  rw [getD_snoc _ _ _ _ (by rw [h.1]; omega), h.1]
  by_cases e : c = k
  · rw [if_pos e, e]; exact hr
  · rw [if_neg e]; exact h.2 c (by omega)
def CutS (wl : World) (B : Nat) (q : Int) (wx : World) : Prop := SmAt wx B q ∧ New wl wx
theorem wk_map {w : World} {b m : Nat} {D : DataW Unit} {l : List Pl.T} (h : OM w b m D) (hr : RD D l) (hm : m ≤ 3) : Wk w (.map (some b)) l 3 := ⟨b, D, rfl, h.mono hm, hr⟩
theorem rd1 (e c : Int) : RD ((DataW.map []).put (.int .i64 e) (.lit (.int .i64 c))) [(e, c)] := RD.put (c := c) RD.empty (by rw [Pl.co_nil]; omega)
theorem rd2 (e c e' c' : Int) (h : e ≠ e') : RD (((DataW.map []).put (.int .i64 e) (.lit (.int .i64 c))).put (.int .i64 e') (.lit (.int .i64 c'))) [(e, c), (e', c')] := RD.put (l := [(e, c)]) (c := c') (rd1 e c) (by rw [Pl.co_cons, Pl.co_nil, if_neg h]; omega)
/- the box as it is made, and made anew -/
theorem SmAt.made {w : World} {a b c d : Value} {q : Int} (h1 : Wk w a (Kn.sm q 0 0) 3) (h2 : Wk w b (Kn.sm q 0 1) 3) (h3 : Wk w c (Kn.sm q 1 0) 3) (h4 : Wk w d (Kn.sm q 1 1) 3) : SmAt (w.alloc (.cells #[a, b, c, d] 77)) w.heap.size q :=
  have hn : New w (w.alloc (.cells #[a, b, c, d] 77)) := (Fr.refl _ _).alloc _
  ⟨a, b, c, d, heap_alloc_new _ _, hn.wk h1, hn.wk h2, hn.wk h3, hn.wk h4⟩
end Go.Proofs.YtdelekkbkpldjaaDoor
