/- Walks: Close: words for its memory. -/
import Derived.Deep.AppendLies
import Derived.Test.YtdelekkbkpldjaaDoorQ0
import Derived.Test.YtdelekkbkpldjaaDoorQ1
import Derived.Test.YtdelekkbkpldjaaDoorMAllc
namespace Go.Proofs.YtdelekkbkpldjaaDoor
open Go.RowKit

def arcFn (A : List Nat) (j : Nat) : Value := .int .i64 (A.getD j 0 : Nat)
def wkFn (W : List Bool) (j : Nat) : Value := .bool (W.getD j false)
/- the numbers of passes, which places were walked, and the diagram that is made -/
structure ClM (w : World) (ab wb db n L : Nat) (A : List Nat) (W : List Bool) (lo : Nat) : Prop where
  a : w.rowIs ab 54 (4 * L) (arcFn A)
  k : w.rowIs wb 4 (n + 1) (wkFn W)
  d : w.heap[db]? = some (.cells #[.slice none 0 0, .int .i64 (lo : Nat)] 27 (0, 0))
  la : A.length = 4 * L
  lw : W.length = n + 1
section
variable {w w' : World} {ab wb db n L lo : Nat} {A : List Nat} {W : List Bool}
theorem ClM.ne (h : ClM w ab wb db n L A W lo) : ab ≠ wb ∧ db ≠ ab ∧ db ≠ wb := ⟨rowIs_ne h.a h.k (by decide), blk_ne h.d h.a (by decide), blk_ne h.d h.k (by decide)⟩
theorem ClM.new (h : ClM w ab wb db n L A W lo) (hf : New w w') : ClM w' ab wb db n L A W lo := ⟨hf.row h.a fun x => x, hf.row h.k fun x => x, hf.blk h.d fun x => x, h.la, h.lw⟩
theorem ClM.setA (h : ClM w ab wb db n L A W lo) {c : Nat} (hc : c < 4 * L) (v : Nat) : ClM (w.setCell ⟨ab, c, none⟩ (.int .i64 (v : Nat))) ab wb db n L (A.set c v) W lo := by
  obtain ⟨e1, e2, e3⟩ := h.ne
  have hF : Fr (fun k => k = ab) w (w.setCell ⟨ab, c, none⟩ (.int .i64 (v : Nat))) := (Fr.refl (fun k => k = ab) w).setCell (a := ⟨ab, c, none⟩) (.inl rfl) _
  refine ⟨rowIs_congr (h.a.set c _) fun j hj => ?_, hF.row h.k fun e => e1 e.symm, hF.blk h.d e2, by simp [h.la], h.lw⟩
  show Value.int .i64 (((A.set c v).getD j 0 : Nat) : Int) = if j = c then _ else Value.int .i64 ((A.getD j 0 : Nat) : Int)
  rw [Kn.getD_set']
  by_cases e : j = c
  · rw [if_pos ⟨e, by rw [h.la]; exact hc⟩, if_pos e]
  · rw [if_neg fun k => e k.1, if_neg e]
theorem ClM.setW (h : ClM w ab wb db n L A W lo) {c : Nat} (hc : c < n + 1) : ClM (w.setCell ⟨wb, c, none⟩ (.bool true)) ab wb db n L A (W.set c true) lo := by
  obtain ⟨e1, e2, e3⟩ := h.ne
  have hF : Fr (fun k => k = wb) w (w.setCell ⟨wb, c, none⟩ (.bool true)) := (Fr.refl (fun k => k = wb) w).setCell (a := ⟨wb, c, none⟩) (.inl rfl) _
  refine ⟨hF.row h.a e1, rowIs_congr (h.k.set c _) fun j hj => ?_, hF.blk h.d e3, h.la, by simp [h.lw]⟩
  show Value.bool ((W.set c true).getD j false) = if j = c then _ else Value.bool (W.getD j false)
  rw [Kn.getD_set']
  by_cases e : j = c
  · rw [if_pos ⟨e, by rw [h.lw]; exact hc⟩, if_pos e]
  · rw [if_neg fun k => e k.1, if_neg e]
theorem ClM.setD (h : ClM w ab wb db n L A W lo) (v : Nat) : ClM (w.setCell ⟨db, 1, none⟩ (.int .i64 (v : Nat))) ab wb db n L A W v := by
  obtain ⟨e1, e2, e3⟩ := h.ne
  have hF : Fr (fun k => k = db) w (w.setCell ⟨db, 1, none⟩ (.int .i64 (v : Nat))) := (Fr.refl (fun k => k = db) w).setCell (a := ⟨db, 1, none⟩) (.inl rfl) _
  refine ⟨hF.row h.a fun e => e2 e.symm, hF.row h.k fun e => e3 e.symm, ?_, h.la, h.lw⟩
  have := h.d
  unfold World.setCell; simp [Array.getElem?_modify, this]
end
theorem passC_succ (w : List Int) (k : Nat) (s : Kn.CS) : Kn.passC w (k + 1) s = Kn.stepC k (w.getD k 0) (Kn.passC w k s) := rfl
theorem stepC_l {k : Nat} {a : Int} {s : Kn.CS} (h : s.at_ = a.natAbs) : Kn.stepC k a s = ⟨a.natAbs + 1, s.nx + 1, (s.A.set (4 * k) s.nx).set (4 * k + 1) (s.nx + 1), some (4 * k + 1)⟩ := by unfold Kn.stepC; rw [if_pos h]
theorem stepC_r {k : Nat} {a : Int} {s : Kn.CS} (h : s.at_ = a.natAbs + 1) : Kn.stepC k a s = ⟨a.natAbs, s.nx + 1, (s.A.set (4 * k + 2) s.nx).set (4 * k + 3) (s.nx + 1), some (4 * k + 3)⟩ := by unfold Kn.stepC; rw [if_neg (by omega), if_pos h]
theorem stepC_n {k : Nat} {a : Int} {s : Kn.CS} (h1 : s.at_ ≠ a.natAbs) (h2 : s.at_ ≠ a.natAbs + 1) : Kn.stepC k a s = s := by unfold Kn.stepC; rw [if_neg h1, if_neg h2]
def laV (ab : Nat) (o : Option Nat) : Value := .pointer (o.map fun c => ⟨ab, c, none⟩)
theorem z4_at (m j : Nat) (h : j < m) : (madeCells #[Value.int .i64 0, .int .i64 0, .int .i64 0, .int .i64 0] m)[j]? = some (.int .i64 0) := by
  have e : (madeCells #[Value.int .i64 0, .int .i64 0, .int .i64 0, .int .i64 0] m)[j]? = some (#[Value.int .i64 0, .int .i64 0, .int .i64 0, .int .i64 0][j % 4]!) := by simp [madeCells, h]
  rw [e]
  have h4 : j % 4 = 0 ∨ j % 4 = 1 ∨ j % 4 = 2 ∨ j % 4 = 3 := by omega
  rcases h4 with h4 | h4 | h4 | h4 <;> rw [h4] <;> rfl
theorem info54 : (Tryd.prog.info? 54).map (fun i => (i.zero, i.size, i.bytes)) = some (some (.agg #[.int .i64 0, .int .i64 0, .int .i64 0, .int .i64 0]), 4, 32) := by kernel_rfl
theorem make50 (m : Nat) (hm : m ≤ 1000) (w : World) : (Instr.makeSlice 50 (.int .i64 (m : Int)) (.int .i64 (m : Int))).run Tryd.prog w = .ok (.slice (some ⟨w.heap.size, 0, none⟩) m m) (w.alloc (.cells (madeCells #[.int .i64 0, .int .i64 0, .int .i64 0, .int .i64 0] (m * 4)) 54)) := by
  obtain ⟨i, hi, h1, h2, h3⟩ := info_parts info54
  have hr := run_make (P := Tryd.prog) w 50 54 i _ Tryd.underlying50 hi h1 .i64 .i64 m m (by omega) (Int.le_refl _) (by rw [h3]; omega) (by omega)
  rw [h2] at hr
  exact hr
theorem make51 (m : Nat) (hm : m ≤ 1000) (w : World) : (Instr.makeSlice 51 (.int .i64 (m : Int)) (.int .i64 (m : Int))).run Tryd.prog w = .ok (.slice (some ⟨w.heap.size, 0, none⟩) m m) (w.alloc (.cells (madeCells #[.bool false] m) 4)) :=
  run_make_row' 51 4 (.bool false) 1 Tryd.underlying51 Tryd.info4 rfl .i64 .i64 m (by omega) (by omega) w
theorem clm_made (w : World) (n len : Nat) (h : len ≤ 16) : New w (((w.alloc (.cells (madeCells #[.int .i64 0, .int .i64 0, .int .i64 0, .int .i64 0] (len * 4)) 54)).alloc (.cells #[.slice none 0 0, .int .i64 0] 27)).alloc (.cells (madeCells #[.bool false] (n + 1)) 4)) ∧
    ClM (((w.alloc (.cells (madeCells #[.int .i64 0, .int .i64 0, .int .i64 0, .int .i64 0] (len * 4)) 54)).alloc (.cells #[.slice none 0 0, .int .i64 0] 27)).alloc (.cells (madeCells #[.bool false] (n + 1)) 4)) w.heap.size (w.heap.size + 1 + 1) (w.heap.size + 1) n len (List.replicate (4 * len) 0) (List.replicate (n + 1) false) 0 := by
  obtain ⟨x, hx⟩ : ∃ x, x = Obj.cells (madeCells #[.int .i64 0, .int .i64 0, .int .i64 0, .int .i64 0] (len * 4)) 54 := ⟨_, rfl⟩
  have e1 : (w.alloc x).heap.size = w.heap.size + 1 := by simp
  have e2 : ((w.alloc x).alloc (.cells #[.slice none 0 0, .int .i64 0] 27)).heap.size = w.heap.size + 1 + 1 := by simp
  rw [← hx]
  have F1 : New (w.alloc x) (((w.alloc x).alloc (.cells #[.slice none 0 0, .int .i64 0] 27)).alloc (.cells (madeCells #[.bool false] (n + 1)) 4)) := ((Fr.refl (fun _ => False) _).alloc _).alloc _
  have F2 : New ((w.alloc x).alloc (.cells #[.slice none 0 0, .int .i64 0] 27)) (((w.alloc x).alloc (.cells #[.slice none 0 0, .int .i64 0] 27)).alloc (.cells (madeCells #[.bool false] (n + 1)) 4)) := (Fr.refl (fun _ => False) _).alloc _
  refine ⟨((Fr.refl (fun _ => False) w).alloc _).trans F1, ⟨F1.row ?_ fun x => x, ?_, F2.blk (by have := heap_alloc_new (w.alloc x) (.cells #[.slice none 0 0, .int .i64 0] 27); rwa [e1] at this) fun x => x, by simp, by simp⟩⟩
  · rw [hx]
    refine ⟨_, heap_alloc_new w _, by rw [size_madeCells]; omega, fun i hi => ?_⟩
    have e : (madeCells #[Value.int .i64 0, .int .i64 0, .int .i64 0, .int .i64 0] (len * 4))[i]? = some (.int .i64 0) := z4_at _ _ (by omega)
    rw [e]
    unfold arcFn
    rw [List.getD_eq_getElem?_getD, List.getElem?_replicate]
    split <;> rfl
  · have := World.rowIs_made ((w.alloc x).alloc (.cells #[.slice none 0 0, .int .i64 0] 27)) (.bool false) (n + 1) 4
    rw [e2] at this
    refine rowIs_congr this fun j hj => ?_
    unfold wkFn
    rw [List.getD_eq_getElem?_getD, List.getElem?_replicate]
    split <;> rfl
theorem closeC_next {n : Nat} {xs : List Int} (hw : Kn.LetsM n xs) {q : Nat} (hq : q < n) {t : Kn.CL} (h : Kn.closeC n xs q = some t) : ∃ t', Kn.closeC n xs (q + 1) = some t' ∧ Kn.placeC n xs (q + 1) t = some t' := by
  obtain ⟨t', _, _, e, _⟩ := Kn.close_oi hw (q + 1) (by omega)
  refine ⟨t', e, ?_⟩
  rw [Kn.closeC, h] at e
  exact e
theorem placeC_cases {n : Nat} {xs : List Int} {p : Nat} {t t' : Kn.CL} (h : Kn.placeC n xs p t = some t') : (t.W.getD p false = true ∧ t' = t) ∨ (t.W.getD p false = false ∧ ∃ W s, Kn.strandC xs (n + 1) t.W ⟨p, t.nx, t.A, none⟩ = some (W, s) ∧ ((∃ c, s.la = some c ∧ t' = ⟨W, s.nx, s.A.set c t.nx, t.loops⟩) ∨ (s.la = none ∧ t' = ⟨W, s.nx, s.A, t.loops + 1⟩))) := by
  unfold Kn.placeC at h
  by_cases c : t.W.getD p false = true
  · rw [if_pos c] at h
    exact .inl ⟨c, by simpa using h.symm⟩
  · rw [if_neg c] at h
    refine .inr ⟨by simpa using c, ?_⟩
    cases hs : Kn.strandC xs (n + 1) t.W ⟨p, t.nx, t.A, none⟩ with
    | none => rw [hs] at h; cases h
    | some R =>
      obtain ⟨W, s⟩ := R
      rw [hs] at h
      refine ⟨W, s, rfl, ?_⟩
      cases hl : s.la with
      | none => simp only [hl] at h; exact .inr ⟨rfl, by simpa using h.symm⟩
      | some c => simp only [hl] at h; exact .inl ⟨c, rfl, by simpa using h.symm⟩
theorem strandC_cases {xs : List Int} {f : Nat} {W W' : List Bool} {s s' : Kn.CS} (h : Kn.strandC xs f W s = some (W', s')) : ∃ f', f = f' + 1 ∧ ((W.getD s.at_ false = true ∧ W' = W ∧ s' = s) ∨ (W.getD s.at_ false = false ∧ Kn.strandC xs f' (W.set s.at_ true) (Kn.passC xs xs.length s) = some (W', s'))) := by
  cases f with
  | zero => cases h
  | succ f =>
    refine ⟨f, rfl, ?_⟩
    rw [Kn.strandC] at h
    by_cases c : W.getD s.at_ false = true
    · rw [if_pos c] at h
      simp only [Option.some.injEq, Prod.mk.injEq] at h
      exact .inl ⟨c, h.1.symm, h.2.symm⟩
    · rw [if_neg c] at h
      exact .inr ⟨by simpa using c, h⟩
theorem Fr.new3 {ab wb db : Nat} {w w' : World} (h : Fr (fun k => k = ab ∨ k = wb ∨ k = db) w w') (hb : w.heap.size ≤ ab ∧ w.heap.size ≤ wb ∧ w.heap.size ≤ db) : New w w' :=
  (Fr.refl (fun _ => False) w).next h fun i hi => .inr (by rcases hi with rfl | rfl | rfl; exact hb.1; exact hb.2.1; exact hb.2.2)
theorem crCells_snoc (X : List Kn.Cr) (x : Kn.Cr) : crCells (X ++ [x]) = crCells X ++ [.int .i64 x.a, .int .i64 x.b, .int .i64 x.c, .int .i64 x.d, .bool x.p] := by
  apply List.ext_getElem?
  intro j
  by_cases c : j < X.length * 5
  · rw [crCells_at (by simp; omega), List.getElem?_append_left (by rw [crCells_length]; exact c), crCells_at c]
    have : Kn.cr (X ++ [x]) (j / 5) = Kn.cr X (j / 5) := by
      unfold Kn.cr
      rw [List.getD_eq_getElem?_getD, List.getD_eq_getElem?_getD, List.getElem?_append_left (by omega)]
    unfold crFn
    rw [this]
  · by_cases c' : j < X.length * 5 + 5
    · rw [crCells_at (by simp; omega), List.getElem?_append_right (by rw [crCells_length]; omega), crCells_length]
      have e1 : j / 5 = X.length := by omega
      have : Kn.cr (X ++ [x]) (j / 5) = x := by
        unfold Kn.cr
        rw [List.getD_eq_getElem?_getD, e1]
        simp
      unfold crFn
      rw [this]
      obtain ⟨k, hk, rfl⟩ : ∃ k, k < 5 ∧ j = X.length * 5 + k := ⟨j - X.length * 5, by omega, by omega⟩
      rw [show (X.length * 5 + k) % 5 = k by omega, show X.length * 5 + k - X.length * 5 = k by omega]
      match k, hk with
      | 0, _ => rfl
      | 1, _ => rfl
      | 2, _ => rfl
      | 3, _ => rfl
      | 4, _ => rfl
    · rw [List.getElem?_eq_none (by rw [crCells_length]; simp; omega), List.getElem?_eq_none (by simp [crCells_length]; omega)]
theorem five_cells {w : World} {a b c d e : Value} {t : TypeId} {B : Nat} (hB : B = w.heap.size) : ∀ (j : Nat) (u : Value), [a, b, c, d, e][j]? = some u → (w.alloc (.cells #[a, b, c, d, e] t)).cell? ((⟨B, 0, none⟩ : Addr).add j) = some u := by
  subst hB
  have h := heap_alloc_new w (.cells #[a, b, c, d, e] t)
  intro j u hj
  rw [addr_add, Nat.zero_add]
  match j, hj with
  | 0, hj => cases hj; exact cell_of_row _ _ 0 _ t (0, 0) h
  | 1, hj => cases hj; exact cell_of_row _ _ 1 _ t (0, 0) h
  | 2, hj => cases hj; exact cell_of_row _ _ 2 _ t (0, 0) h
  | 3, hj => cases hj; exact cell_of_row _ _ 3 _ t (0, 0) h
  | 4, hj => cases hj; exact cell_of_row _ _ 4 _ t (0, 0) h
theorem one_five (a b c d : Int) (p : Bool) : ∀ u ∈ [Value.int .i64 a, .int .i64 b, .int .i64 c, .int .i64 d, .bool p], u.oneCell' = true := by
  intro u hu
  simp only [List.mem_cons, List.not_mem_nil, or_false] at hu
  rcases hu with rfl | rfl | rfl | rfl | rfl <;> rfl
theorem box2_set {W : World} {B t : Nat} {a b : Value} (hb : W.heap[B]? = some (.cells #[a, b] t (0, 0))) (v : Value) : (W.setCell ⟨B, 0, none⟩ v).heap[B]? = some (.cells #[v, b] t (0, 0)) ∧ (W.setCell ⟨B, 1, none⟩ v).heap[B]? = some (.cells #[a, v] t (0, 0)) := by
  constructor <;> (unfold World.setCell; simp [Array.getElem?_modify, hb])
theorem row_app {W W' : World} {o : Obj} {B t base e sz n : Nat} {cs : Array Value} {v : Value} {xs : List Value} (hb : W.heap[B]? = some (.cells cs t (0, 0))) (h : W.ownsRow base e sz v n xs) (hne : e ≠ t) (hg : (W.alloc o).grownBy W' v.ownBlock) : W'.heap[B]? = some (.cells cs t (0, 0)) := by
  have hl := (Array.getElem?_eq_some_iff.1 hb).1
  exact (hg.block B (by simp; omega) fun ek => blk_not_own hb h hne ek.symm).trans ((Below.heap_alloc _ _ _ hl).trans hb)
/- the crossings so far, in the box db -/
structure DgC (B0 : Nat) (wr : World) (ab db L : Nat) (A : List Nat) (lo : Nat) (sv : Value) (Y : List Kn.Cr) : Prop where
  a : wr.rowIs ab 54 (4 * L) (arcFn A)
  box : wr.heap[db]? = some (.cells #[sv, .int .i64 (lo : Nat)] 27 (0, 0))
  own : wr.ownsRow B0 56 5 sv Y.length (crCells Y)
  db0 : B0 ≤ wr.heap.size
section
variable {B0 ab db L lo : Nat} {wr w' : World} {A : List Nat} {sv : Value} {Y : List Kn.Cr}
theorem DgC.nw (h : DgC B0 wr ab db L A lo sv Y) (hf : New wr w') : DgC B0 w' ab db L A lo sv Y :=
  ⟨hf.row h.a fun x => x, hf.blk h.box fun x => x, hf.owns h.own fun _ _ x => x, Nat.le_trans h.db0 hf.size⟩
theorem DgC.app (h : DgC B0 wr ab db L A lo sv Y) {w7 : World} {o : Obj} {v' : Value} {x : Kn.Cr}
    (hown : w7.ownsRow B0 56 5 v' (Y.length + 1) (crCells Y ++ [.int .i64 x.a, .int .i64 x.b, .int .i64 x.c, .int .i64 x.d, .bool x.p])) (hg : (wr.alloc o).grownBy w7 sv.ownBlock) :
    w7.heap[db]? = some (.cells #[sv, .int .i64 (lo : Nat)] 27 (0, 0)) ∧ DgC B0 (w7.setCell ⟨db, 0, none⟩ v') ab db L A lo v' (Y ++ [x]) := by
  have hb7 := row_app h.box h.own (by decide) hg
  have hF : Fr (fun k => sv.ownBlock = some k) wr w7 := ((Fr.refl _ wr).alloc o).grown hg fun k e => .inl e
  have h7 : w7.rowIs ab 54 (4 * L) (arcFn A) := hF.row h.a fun e => own_ne h.own h.a (by decide) _ e rfl
  have hS : Fr (fun k => k = db) w7 (w7.setCell ⟨db, 0, none⟩ v') := (Fr.refl (fun k => k = db) w7).setCell (a := ⟨db, 0, none⟩) (.inl rfl) _
  refine ⟨hb7, hS.row h7 fun e => blk_ne hb7 h7 (by decide) e.symm, (box2_set hb7 v').1, ?_, ?_⟩
  · rw [List.length_append, List.length_singleton, crCells_snoc]
    exact hS.owns hown fun k hk e => blk_not_own hb7 hown (by decide) (e ▸ hk)
  · rw [size_set]; exact Nat.le_trans h.db0 hF.size
end
theorem ClM.dgc {w : World} {ab wb db n L lo : Nat} {A : List Nat} {W : List Bool} (h : ClM w ab wb db n L A W lo) {B0 : Nat} (hB : B0 ≤ w.heap.size) : DgC B0 w ab db L A lo (.slice none 0 0) [] :=
  ⟨h.a, h.d, World.ownsRow_nil _ _ _ _, hB⟩
theorem closX_take {xs : List Int} {A : List Nat} {k : Nat} (hk : k < xs.length) : (Kn.closX xs A).take (k + 1) = (Kn.closX xs A).take k ++ [Kn.mkC (xs.getD k 0) (A.getD (4 * k) 0) (A.getD (4 * k + 1) 0) (A.getD (4 * k + 2) 0) (A.getD (4 * k + 3) 0)] := by
  have hl : k < (Kn.closX xs A).length := by rw [Kn.closX_len]; exact hk
  rw [List.take_succ_eq_append_getElem hl]
  congr 2
  have := Kn.closX_cr (A := A) hk
  unfold Kn.cr at this
  rw [List.getD_eq_getElem?_getD, List.getElem?_eq_getElem hl] at this
  exact this
theorem mkC_mk (a : Int) (l0 l1 r0 r1 : Nat) : Kn.mkC a l0 l1 r0 r1 = if 0 < a then Kn.mkCr (r0 : Nat) (r1 : Nat) (l0 : Nat) (l1 : Nat) true else Kn.mkCr (l0 : Nat) (l1 : Nat) (r0 : Nat) (r1 : Nat) false := by
  unfold Kn.mkC Kn.mkCr
  split <;> rfl
theorem crs_own {w : World} {B0 : Nat} {v : Value} {X : List Kn.Cr} (h : w.ownsRow B0 56 5 v X.length (crCells X)) : ∃ a c, v = .slice a X.length c ∧ CrsAt w a X := by
  rcases h.2 with ⟨rfl, h0⟩ | ⟨g, cap, cur, rfl, hb, hg, hn, hc, hs, ht⟩
  · have : X = [] := List.eq_nil_of_length_eq_zero h0
    subst this
    exact ⟨none, 0, rfl, .inl rfl⟩
  · refine ⟨_, cap, rfl, .inr ⟨g, 0, rfl, fun i hi => ?_⟩⟩
    have hc : ∀ k, k < 5 → w.cell? ⟨g, i * 5 + k, none⟩ = some (crFn X (i * 5 + k)) := fun k hk => by
      have := World.ownsRow.cells h (g := g) rfl (i * 5 + k) (crFn X (i * 5 + k)) (crCells_at (by omega))
      rwa [addr_add, Nat.zero_add] at this
    have e : ∀ k, k < 5 → (i * 5 + k) / 5 = i ∧ (i * 5 + k) % 5 = k := fun k hk => by omega
    have f : ∀ k, k < 5 → crFn X (i * 5 + k) = [Value.int .i64 (Kn.cr X i).a, .int .i64 (Kn.cr X i).b, .int .i64 (Kn.cr X i).c, .int .i64 (Kn.cr X i).d, .bool (Kn.cr X i).p].getD k undef := fun k hk => by
      unfold crFn
      rw [(e k hk).1, (e k hk).2]
      match k, hk with
      | 0, _ => rfl
      | 1, _ => rfl
      | 2, _ => rfl
      | 3, _ => rfl
      | 4, _ => rfl
    rw [Nat.zero_add]
    exact ⟨by have := hc 0 (by omega); rw [f 0 (by omega)] at this; exact this, by have := hc 1 (by omega); rw [f 1 (by omega)] at this; exact this, by have := hc 2 (by omega); rw [f 2 (by omega)] at this; exact this, by have := hc 3 (by omega); rw [f 3 (by omega)] at this; exact this, by have := hc 4 (by omega); rw [f 4 (by omega)] at this; exact this⟩
/- two boxes made, whichever first -/
def Box2 (wr wx : World) (s21 s22 : Value) (e0 e1 e2 e3 : Nat) : Prop :=
  ∃ B1 B2, s21 = .pointer (some ⟨B1, 0, none⟩) ∧ s22 = .pointer (some ⟨B2, 0, none⟩) ∧ wx.heap[B1]? = some (.cells #[.int .i64 (e0 : Nat), .int .i64 (e1 : Nat)] 53 (0, 0)) ∧ wx.heap[B2]? = some (.cells #[.int .i64 (e2 : Nat), .int .i64 (e3 : Nat)] 53 (0, 0)) ∧ B1 ≠ B2 ∧ wr.heap.size ≤ B1 ∧ wr.heap.size ≤ B2 ∧ New wr wx
theorem box2_a (w : World) (e0 e1 e2 e3 : Nat) : Box2 w ((w.alloc (.cells #[.int .i64 (e0 : Nat), .int .i64 (e1 : Nat)] 53)).alloc (.cells #[.int .i64 (e2 : Nat), .int .i64 (e3 : Nat)] 53)).drew (.pointer (some ⟨w.heap.size, 0, none⟩)) (.pointer (some ⟨w.heap.size + 1, 0, none⟩)) e0 e1 e2 e3 := by
  have h1 := heap_alloc_new w (.cells #[.int .i64 (e0 : Nat), .int .i64 (e1 : Nat)] 53)
  have h2 := heap_alloc_new (w.alloc (.cells #[.int .i64 (e0 : Nat), .int .i64 (e1 : Nat)] 53)) (.cells #[.int .i64 (e2 : Nat), .int .i64 (e3 : Nat)] 53)
  rw [World.size_alloc] at h2
  exact ⟨_, _, rfl, rfl, ((Fr.refl (fun _ => False) _).alloc _).blk h1 fun x => x, h2, by omega, Nat.le_refl _, by omega, (((Fr.refl (fun _ => False) w).alloc _).alloc _).drew⟩
theorem box2_b (w : World) (e0 e1 e2 e3 : Nat) : Box2 w ((w.alloc (.cells #[.int .i64 (e2 : Nat), .int .i64 (e3 : Nat)] 53)).alloc (.cells #[.int .i64 (e0 : Nat), .int .i64 (e1 : Nat)] 53)).drew (.pointer (some ⟨w.heap.size + 1, 0, none⟩)) (.pointer (some ⟨w.heap.size, 0, none⟩)) e0 e1 e2 e3 := by
  have h1 := heap_alloc_new w (.cells #[.int .i64 (e2 : Nat), .int .i64 (e3 : Nat)] 53)
  have h2 := heap_alloc_new (w.alloc (.cells #[.int .i64 (e2 : Nat), .int .i64 (e3 : Nat)] 53)) (.cells #[.int .i64 (e0 : Nat), .int .i64 (e1 : Nat)] 53)
  rw [World.size_alloc] at h2
  exact ⟨_, _, rfl, rfl, h2, ((Fr.refl (fun _ => False) _).alloc _).blk h1 fun x => x, by omega, by omega, Nat.le_refl _, (((Fr.refl (fun _ => False) w).alloc _).alloc _).drew⟩
theorem box2_all {W : World} {B t : Nat} {a b : Value} (hb : W.heap[B]? = some (.cells #[a, b] t (0, 0))) (v v' : Value) : ((W.setCell ⟨B, 0, none⟩ v).setCell ⟨B, 1, none⟩ v').heap[B]? = some (.cells #[v, v'] t (0, 0)) := (box2_set (box2_set hb v).1 v').2
end Go.Proofs.YtdelekkbkpldjaaDoor
