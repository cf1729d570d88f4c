/- Words for a view at work. -/
import Derived.Maps.OwnSet
import Derived.Test.YtgjmjbgicfkojaaGreatW16
namespace Go.Proofs.YtgjmjbgicfkojaaGreat
open Go.RowKit

theorem wpList_insert_own {H : Type} {P : Program} (w : World) {ops : Array Oper} {rest : List Oper} {o : Oper} {a : Act} {Q : Exit → Act → World → Prop}
    (hg : o.guard = none) (m x v : Operand) (t : TypeId) (hop : o.op = Op.insert t m x v)
    (k e : TypeId) (K : Maps.Keyed P k) (ht : P.underlying t = some (.map k e)) (R : Value → Option (DataW H × List MemPlace)) (b n : Nat) (D : DataW H)
    (hm : a.eval m = .map (some b)) (hown : w.ownsMap P k R b n D) (hn : n < maxLen) (key val : Value) (kl : Lit) (hx : a.eval x = key) (hv : a.eval v = val) (hkey : keyOf P k key = some kl)
    (d : DataW H) (ps : List MemPlace) (hval : R val = some (d, ps))
    (hK : ∀ w', w'.ownsMap P k R b (n + 1) (D.put kl d) → w.grownBy w' (some b) → wpList P ops Q rest (a.put o.dst undef) w') :
    wpList P ops Q (o :: rest) a w := by
  refine wpList_plain hg fun K' hK' => ?_
  obtain ⟨w', hrun, r1, r2⟩ := hown.update K ht hn hkey hval
  unfold Oper.wp
  simp [execOp, hop, hm, hx, hv, hrun, Result.andThen]
  exact hK' _ _ (hK w' r1 r2)
/- a map of numbers: whether a number is there, and what it reads -/
def NumMap2 (W : World) (mb : Nat) (l : List Nat) (f : Nat → Nat) : Prop :=
  ∃ D : DataW Unit, W.ownsMap Tryz.prog 3 (plainElem Tryz.prog 3) mb l.length D ∧ Maps.IsMap D ∧ ∀ x : Nat, D.atKey (.int .i64 (x : Nat)) (.lit (.int .i64 0)) = .lit (.int .i64 (if x ∈ l then (f x : Nat) else 0 : Nat)) ∧ Maps.has D (.int .i64 (x : Nat)) = decide (x ∈ l)
theorem NumMap2.made (w : World) (f : Nat → Nat) : NumMap2 (w.alloc (.map #[] 0)) w.heap.size [] f := ⟨_, World.ownsMap_made _ _ _ _, Maps.isMap_empty, fun x => ⟨by rw [if_neg (by simp)]; rfl, by rw [decide_eq_false (by simp)]; rfl⟩⟩
theorem NumMap2.fr {S : Nat → Prop} {W W' : World} {mb : Nat} {l : List Nat} {f : Nat → Nat} (h : NumMap2 W mb l f) (hf : Fr S W W') (hs : ¬ S mb) : NumMap2 W' mb l f := by
  obtain ⟨D, ⟨es, ck, hb, r⟩, h1, h2⟩ := h
  exact ⟨D, ⟨es, ck, (hf.block mb (Array.getElem?_eq_some_iff.1 hb).1 hs).trans hb, r⟩, h1, h2⟩
theorem NumMap2.block {W : World} {mb : Nat} {l : List Nat} {f : Nat → Nat} (h : NumMap2 W mb l f) : ∃ es ck, W.heap[mb]? = some (.map es ck) := by
  obtain ⟨D, ⟨es, ck, hb, _⟩, _⟩ := h
  exact ⟨es, ck, hb⟩
set_option maxRecDepth 100000 in
theorem NumMap2.look {W : World} {mb : Nat} {l : List Nat} {f : Nat → Nat} (h : NumMap2 W mb l f) {x : Nat} (hx2 : x ≤ 1000) :
    (Instr.lookup 80 (.map (some mb)) (.int .i64 (x : Nat)) true).run Tryz.prog W = .ok (.tuple #[.int .i64 (if x ∈ l then (f x : Nat) else 0 : Nat), .bool (decide (x ∈ l))]) W := by
  obtain ⟨D, ho, _, h2⟩ := h
  obtain ⟨v, ps, hrun, hv⟩ := ho.look_ok Tryz.law3 Tryz.ul80 (Tryz.zero3 W) (plainElem_int (H := Unit) Tryz.underlying3 (a := 0) (by decide)) (Maps.keyOf_int_mk Tryz.underlying3 (wfN hx2))
  obtain ⟨c, rfl, hc, _⟩ := plainElem_int_inv Tryz.underlying3 hv
  rw [(h2 x).1] at hc
  simp only [Prod.mk.injEq, DataW.lit.injEq, Lit.int.injEq, true_and] at hc
  rw [(h2 x).2] at hrun
  rw [hrun, ← hc.1]
set_option maxRecDepth 100000 in
theorem NumMap2.look1 {W : World} {mb : Nat} {l : List Nat} {f : Nat → Nat} (h : NumMap2 W mb l f) {x : Nat} (hx : x ∈ l) (hx2 : x ≤ 1000) :
    (Instr.lookup 80 (.map (some mb)) (.int .i64 (x : Nat)) false).run Tryz.prog W = .ok (.int .i64 (f x : Nat)) W := by
  obtain ⟨D, ho, _, h2⟩ := h
  obtain ⟨c, hrun, hat, _⟩ := ho.lookup_int Tryz.law3 Tryz.ul80 Tryz.underlying3 (Tryz.zero3 W) (Maps.keyOf_int_mk Tryz.underlying3 (wfN hx2))
  rw [(h2 x).1, if_pos hx] at hat
  injection hat with hat
  injection hat with _ hat
  subst hat
  exact hrun
theorem NumMap2.put {W' : World} {mb y : Nat} {l : List Nat} {f g : Nat → Nat} {D : DataW Unit} {x : Nat} (h1 : Maps.IsMap D)
    (h2 : ∀ x : Nat, D.atKey (.int .i64 (x : Nat)) (.lit (.int .i64 0)) = .lit (.int .i64 (if x ∈ l then (f x : Nat) else 0 : Nat)) ∧ Maps.has D (.int .i64 (x : Nat)) = decide (x ∈ l)) (hg : ∀ z ∈ l, g z = f z) (hx : x ∉ l) (hy : g x = y)
    (ho : W'.ownsMap Tryz.prog 3 (plainElem Tryz.prog 3) mb (l.length + 1) (D.put (.int .i64 (x : Nat)) (.lit (.int .i64 (y : Nat))))) : NumMap2 W' mb (l ++ [x]) g := by
  refine ⟨_, by rw [List.length_append]; exact ho, h1.put _ _, fun z => ?_⟩
  have hk : WideAt.IsKeyLit (.int .i64 (x : Nat)) := trivial
  by_cases c : z = x
  · subst c
    refine ⟨?_, ?_⟩
    · rw [Maps.atKey_put_same h1 hk, if_pos (by simp), hy]
    · rw [Maps.has_put_same h1 hk, decide_eq_true (by simp)]
  · have hne : (Lit.int .i64 (z : Nat)) ≠ .int .i64 (x : Nat) := fun e => c (by injection e with _ e; omega)
    rw [Maps.atKey_put_other hne, Maps.has_put_other hne, (h2 z).1, (h2 z).2]
    by_cases d : z ∈ l
    · rw [if_pos d, if_pos (by simp [d]), hg z d, decide_eq_true d, decide_eq_true (by simp [d])]; exact ⟨rfl, rfl⟩
    · rw [if_neg d, if_neg (by simp [d, c]), decide_eq_false d, decide_eq_false (by simp [d, c])]; exact ⟨rfl, rfl⟩
def ints (l : List Int) : List Value := l.map (Value.int .i64)
theorem ints_length (l : List Int) : (ints l).length = l.length := by simp [ints]
theorem ints_app (l m : List Int) : ints (l ++ m) = ints l ++ ints m := by simp [ints]
theorem idx_keep {l : List Nat} {x y : Nat} (hx : x ∈ l) : (l ++ [y]).idxOf x = l.idxOf x := by rw [List.idxOf_append, if_pos hx]
theorem idx_new {l : List Nat} {y : Nat} (hy : y ∉ l) : (l ++ [y]).idxOf y = l.length := by rw [List.idxOf_append, if_neg hy]; simp
/- a view at work: the box of its two slices, and the numbers of crossings -/
structure SInv (w wr : World) (vb mb : Nat) (l : List Nat) (code : List Int) (lm : List Nat) (sc sd : Value) : Prop where
  new : New w wr
  lv : w.heap.size ≤ vb
  lmb : w.heap.size ≤ mb
  box : wr.heap[vb]? = some (.cells #[sc, sd] 94 (0, 0))
  oc : wr.ownsRow w.heap.size 3 1 sc l.length (nums l)
  od : wr.ownsRow w.heap.size 3 1 sd code.length (ints code)
  ne : ∀ k, sc.ownBlock = some k → ¬ sd.ownBlock = some k
  map : NumMap2 wr mb lm (fun x => lm.idxOf x)
theorem SInv.fr {w wr w' : World} {vb mb : Nat} {l lm : List Nat} {code : List Int} {sc sd : Value} (h : SInv w wr vb mb l code lm sc sd) (hf : New wr w') : SInv w w' vb mb l code lm sc sd :=
  ⟨h.new.trans hf, h.lv, h.lmb, hf.blk h.box fun x => x, hf.owns h.oc fun _ _ x => x, hf.owns h.od fun _ _ x => x, h.ne, h.map.fr hf fun x => x⟩
theorem SInv.cells {w wr : World} {vb mb : Nat} {l lm : List Nat} {code : List Int} {sc sd : Value} (h : SInv w wr vb mb l code lm sc sd) : wr.cell? ⟨vb, 0, none⟩ = some sc ∧ wr.cell? ⟨vb, 1, none⟩ = some sd ∧ wr.frozen? ⟨vb, 0, none⟩ = false ∧ wr.frozen? ⟨vb, 1, none⟩ = false :=
  ⟨cell_of_row _ _ 0 _ 94 (0, 0) h.box, cell_of_row _ _ 1 _ 94 (0, 0) h.box, by simp [World.frozen?, h.box], by simp [World.frozen?, h.box]⟩
theorem box2_set {W : World} {B t : Nat} {a b : Value} (hb : W.heap[B]? = some (.cells #[a, b] t (0, 0))) (v : Value) : (W.setCell ⟨B, 0, none⟩ v).heap[B]? = some (.cells #[v, b] t (0, 0)) ∧ (W.setCell ⟨B, 1, none⟩ v).heap[B]? = some (.cells #[a, v] t (0, 0)) := by
  constructor <;> (unfold World.setCell; simp [Array.getElem?_modify, hb])
theorem row_app {W W' : World} {o : Obj} {B t base e sz n : Nat} {cs : Array Value} {v : Value} {xs : List Value} (hb : W.heap[B]? = some (.cells cs t (0, 0))) (h : W.ownsRow base e sz v n xs) (hne : e ≠ t) (hg : (W.alloc o).grownBy W' v.ownBlock) : W'.heap[B]? = some (.cells cs t (0, 0)) := by
  have hl := (Array.getElem?_eq_some_iff.1 hb).1
  exact (hg.block B (by simp; omega) fun ek => blk_not_own hb h hne ek.symm).trans ((Below.heap_alloc _ _ _ hl).trans hb)
/- the code grows -/
theorem SInv.code {w wr w7 : World} {vb mb m : Nat} {l lm : List Nat} {code news : List Int} {sc sd v' : Value} {o : Obj} (h : SInv w wr vb mb l code lm sc sd) (hm : m = code.length)
    (hown : w7.ownsRow w.heap.size 3 1 v' (m + news.length) (ints code ++ ints news)) (hg : (wr.alloc o).grownBy w7 sd.ownBlock) (hloc : v'.ownBlock = sd.ownBlock ∨ v'.ownBlock = some (wr.alloc o).heap.size) :
    SInv w (w7.setCell ⟨vb, 1, none⟩ v') vb mb l (code ++ news) lm sc v' := by
  have hb7 := row_app h.box h.od (by decide) hg
  have hF : Fr (fun k => sd.ownBlock = some k) wr w7 := ((Fr.refl _ wr).alloc o).grown hg fun k e => .inl e
  have hS : Fr (fun k => k = vb) w7 (w7.setCell ⟨vb, 1, none⟩ v') := (Fr.refl (fun k => k = vb) w7).setCell (.inl rfl) _
  obtain ⟨es, ck, hmb⟩ := h.map.block
  have hmv : ¬ mb = vb := fun e => by subst e; rw [h.box] at hmb; cases hmb
  have hc7 := hF.owns h.oc h.ne
  refine ⟨?_, h.lv, h.lmb, (box2_set hb7 v').2, hS.owns hc7 fun k hk e => blk_not_own hb7 hc7 (by decide) (e ▸ hk), ?_, fun k hk hv => ?_, (h.map.fr hF fun e => own_not_map h.od hmb _ e rfl).fr hS hmv⟩
  · exact (h.new.next hF fun i hi => .inr (own_lb h.od i hi)).setCell (.inr h.lv) _
  · rw [ints_app, List.length_append, ← hm]
    exact hS.owns hown fun k hk e => blk_not_own hb7 hown (by decide) (e ▸ hk)
  · rcases hloc with e | e
    · exact h.ne k hk (e ▸ hv)
    · rw [e] at hv
      obtain ⟨u, hu, _⟩ := own_cells h.oc k hk
      have := (Array.getElem?_eq_some_iff.1 hu).1
      have := Option.some.inj hv
      simp at this
      omega
/- the crossings grow -/
theorem SInv.cross {w wr w7 : World} {vb mb m p : Nat} {l lm : List Nat} {code : List Int} {sc sd v' : Value} {o : Obj} (h : SInv w wr vb mb l code lm sc sd) (hm : m = l.length)
    (hown : w7.ownsRow w.heap.size 3 1 v' (m + 1) (nums l ++ [.int .i64 (p : Nat)])) (hg : (wr.alloc o).grownBy w7 sc.ownBlock) (hloc : v'.ownBlock = sc.ownBlock ∨ v'.ownBlock = some (wr.alloc o).heap.size) :
    SInv w (w7.setCell ⟨vb, 0, none⟩ v') vb mb (l ++ [p]) code lm v' sd := by
  have hb7 := row_app h.box h.oc (by decide) hg
  have hF : Fr (fun k => sc.ownBlock = some k) wr w7 := ((Fr.refl _ wr).alloc o).grown hg fun k e => .inl e
  have hS : Fr (fun k => k = vb) w7 (w7.setCell ⟨vb, 0, none⟩ v') := (Fr.refl (fun k => k = vb) w7).setCell (.inl rfl) _
  obtain ⟨es, ck, hmb⟩ := h.map.block
  have hmv : ¬ mb = vb := fun e => by subst e; rw [h.box] at hmb; cases hmb
  have hd7 := hF.owns h.od fun k hk e => h.ne k e hk
  refine ⟨?_, h.lv, h.lmb, (box2_set hb7 v').1, ?_, hS.owns hd7 fun k hk e => blk_not_own hb7 hd7 (by decide) (e ▸ hk), fun k hk hv => ?_, (h.map.fr hF fun e => own_not_map h.oc hmb _ e rfl).fr hS hmv⟩
  · exact (h.new.next hF fun i hi => .inr (own_lb h.oc i hi)).setCell (.inr h.lv) _
  · rw [nums_snoc, List.length_append, ← hm]
    exact hS.owns hown fun k hk e => blk_not_own hb7 hown (by decide) (e ▸ hk)
  · rcases hloc with e | e
    · exact h.ne k (e ▸ hk) hv
    · rw [e] at hk
      obtain ⟨u, hu, _⟩ := own_cells h.od k hv
      have := (Array.getElem?_eq_some_iff.1 hu).1
      have := Option.some.inj hk
      simp at this
      omega
/- a number is put down -/
theorem SInv.put {w wr w1 : World} {vb mb p : Nat} {l lm : List Nat} {code : List Int} {sc sd : Value} {D : DataW Unit} (h : SInv w wr vb mb l code lm sc sd) (hp : p ∉ lm) (h1 : Maps.IsMap D)
    (h2 : ∀ x : Nat, D.atKey (.int .i64 (x : Nat)) (.lit (.int .i64 0)) = .lit (.int .i64 (if x ∈ lm then (lm.idxOf x : Nat) else 0 : Nat)) ∧ Maps.has D (.int .i64 (x : Nat)) = decide (x ∈ lm))
    (ho : w1.ownsMap Tryz.prog 3 (plainElem Tryz.prog 3) mb (lm.length + 1) (D.put (.int .i64 (p : Nat)) (.lit (.int .i64 (lm.length : Nat))))) (hg : wr.grownBy w1 (some mb)) : SInv w w1 vb mb l code (lm ++ [p]) sc sd := by
  have hF : Fr (fun k => k = mb) wr w1 := (Fr.refl _ wr).grown hg fun k e => .inl (Option.some.inj e).symm
  obtain ⟨es, ck, hmb⟩ := h.map.block
  have hmv : ¬ vb = mb := fun e => by subst e; rw [h.box] at hmb; cases hmb
  exact ⟨h.new.next hF fun i hi => .inr (by rw [hi]; exact h.lmb), h.lv, h.lmb, hF.blk h.box hmv, hF.owns h.oc (own_not_map h.oc hmb), hF.owns h.od (own_not_map h.od hmb), h.ne, NumMap2.put h1 h2 (fun z hz => idx_keep hz) hp (idx_new hp) ho⟩
end Go.Proofs.YtgjmjbgicfkojaaGreat
