/- Walks: kinds: the moves by their kinds. -/
import Derived.ChangeMaps4
import Derived.Test.YtgjmjbgicfkojaaGreatN12
/- Walks: kinds: the moves by their kinds. -/
namespace Go.Proofs.YtgjmjbgicfkojaaGreat
open Go.RowKit Go.ChangeMaps

theorem Tryz.ul57 : Tryz.prog.underlying 57 = some (.map 3 56) := by kernel_rfl
abbrev kEnt (k f : Nat) : MapEntry := { key := .int .i64 (k : Nat), val := .func (.func f) #[] #[], born := k - 1 }
/- the entries of the first kinds -/
def kEs : Nat → Array MapEntry
  | 0 => #[]
  | 1 => #[kEnt 1 27]
  | 2 => #[kEnt 1 27, kEnt 2 28]
  | 3 => #[kEnt 1 27, kEnt 2 28, kEnt 3 29]
  | 4 => #[kEnt 1 27, kEnt 2 28, kEnt 3 29, kEnt 4 30]
  | _ => #[kEnt 1 27, kEnt 2 28, kEnt 3 29, kEnt 4 30, kEnt 5 31]
theorem setBlock_get {w : World} {b : Nat} {o o' : Obj} (hb : w.heap[b]? = some o) : (setBlock w b o').heap[b]? = some o' := by
  have := (Array.getElem?_eq_some_iff.1 hb).1
  unfold setBlock
  simp [this]
theorem setBlock_fr (w : World) (b : Nat) (o : Obj) : Fr (fun k => k = b) w (setBlock w b o) := by
  refine ⟨rfl, rfl, rfl, by unfold setBlock; simp, fun k hk hs => ?_⟩
  unfold setBlock
  simp only [Array.getElem?_setIfInBounds]
  rw [if_neg fun e : b = k => hs e.symm]
set_option maxRecDepth 100000 in
theorem kins0 (w : World) (b : Nat) (hb : w.heap[b]? = some (.map (kEs 0) 0)) : (Instr.mapUpdate 57 (.map (some b)) (.int .i64 1) (.func (.func 27) #[] #[])).run Tryz.prog w = .ok () (setBlock w b (.map (kEs 1) 1)) := by
  have hc : (Instr.checkKey false 10000 3 (.int .i64 1)).run Tryz.prog w = .ok () w := by kernel_rfl
  have hf : (Instr.findKey 3 (.int .i64 1) (kEs 0).toList).run Tryz.prog w = .ok none w := by kernel_rfl
  simp [Instr.mapUpdate, run_underlying Tryz.ul57, MapKept.run_getObj_map hb, hc, hf, MapKept.run_setObj_map _ hb, Result.andThen, setBlock]
  rfl
set_option maxRecDepth 100000 in
theorem kins1 (w : World) (b : Nat) (hb : w.heap[b]? = some (.map (kEs 1) 1)) : (Instr.mapUpdate 57 (.map (some b)) (.int .i64 2) (.func (.func 28) #[] #[])).run Tryz.prog w = .ok () (setBlock w b (.map (kEs 2) 2)) := by
  have hc : (Instr.checkKey false 10000 3 (.int .i64 2)).run Tryz.prog w = .ok () w := by kernel_rfl
  have hf : (Instr.findKey 3 (.int .i64 2) (kEs 1).toList).run Tryz.prog w = .ok none w := by kernel_rfl
  simp [Instr.mapUpdate, run_underlying Tryz.ul57, MapKept.run_getObj_map hb, hc, hf, MapKept.run_setObj_map _ hb, Result.andThen, setBlock]
  rfl
set_option maxRecDepth 100000 in
theorem kins2 (w : World) (b : Nat) (hb : w.heap[b]? = some (.map (kEs 2) 2)) : (Instr.mapUpdate 57 (.map (some b)) (.int .i64 3) (.func (.func 29) #[] #[])).run Tryz.prog w = .ok () (setBlock w b (.map (kEs 3) 3)) := by
  have hc : (Instr.checkKey false 10000 3 (.int .i64 3)).run Tryz.prog w = .ok () w := by kernel_rfl
  have hf : (Instr.findKey 3 (.int .i64 3) (kEs 2).toList).run Tryz.prog w = .ok none w := by kernel_rfl
  simp [Instr.mapUpdate, run_underlying Tryz.ul57, MapKept.run_getObj_map hb, hc, hf, MapKept.run_setObj_map _ hb, Result.andThen, setBlock]
  rfl
set_option maxRecDepth 100000 in
theorem kins3 (w : World) (b : Nat) (hb : w.heap[b]? = some (.map (kEs 3) 3)) : (Instr.mapUpdate 57 (.map (some b)) (.int .i64 4) (.func (.func 30) #[] #[])).run Tryz.prog w = .ok () (setBlock w b (.map (kEs 4) 4)) := by
  have hc : (Instr.checkKey false 10000 3 (.int .i64 4)).run Tryz.prog w = .ok () w := by kernel_rfl
  have hf : (Instr.findKey 3 (.int .i64 4) (kEs 3).toList).run Tryz.prog w = .ok none w := by kernel_rfl
  simp [Instr.mapUpdate, run_underlying Tryz.ul57, MapKept.run_getObj_map hb, hc, hf, MapKept.run_setObj_map _ hb, Result.andThen, setBlock]
  rfl
set_option maxRecDepth 100000 in
theorem kins4 (w : World) (b : Nat) (hb : w.heap[b]? = some (.map (kEs 4) 4)) : (Instr.mapUpdate 57 (.map (some b)) (.int .i64 5) (.func (.func 31) #[] #[])).run Tryz.prog w = .ok () (setBlock w b (.map (kEs 5) 5)) := by
  have hc : (Instr.checkKey false 10000 3 (.int .i64 5)).run Tryz.prog w = .ok () w := by kernel_rfl
  have hf : (Instr.findKey 3 (.int .i64 5) (kEs 4).toList).run Tryz.prog w = .ok none w := by kernel_rfl
  simp [Instr.mapUpdate, run_underlying Tryz.ul57, MapKept.run_getObj_map hb, hc, hf, MapKept.run_setObj_map _ hb, Result.andThen, setBlock]
  rfl
set_option maxRecDepth 100000 in
theorem klook1 (w : World) (b : Nat) (hb : w.heap[b]? = some (.map (kEs 5) 5)) : (Instr.lookup 57 (.map (some b)) (.int .i64 1) false).run Tryz.prog w = .ok (.func (.func 27) #[] #[]) w := by
  have hc : (Instr.checkKey false 10000 3 (.int .i64 1)).run Tryz.prog w = .ok () w := by kernel_rfl
  have hf : (Instr.findKey 3 (.int .i64 1) (kEs 5).toList).run Tryz.prog w = .ok (some (0, .func (.func 27) #[] #[])) w := by kernel_rfl
  have he : (kEs 5).isEmpty = false := rfl
  simp [Instr.lookup, run_underlying Tryz.ul57, MapKept.run_getObj_map hb, hc, hf, he, Result.andThen]
set_option maxRecDepth 100000 in
theorem klook2 (w : World) (b : Nat) (hb : w.heap[b]? = some (.map (kEs 5) 5)) : (Instr.lookup 57 (.map (some b)) (.int .i64 2) false).run Tryz.prog w = .ok (.func (.func 28) #[] #[]) w := by
  have hc : (Instr.checkKey false 10000 3 (.int .i64 2)).run Tryz.prog w = .ok () w := by kernel_rfl
  have hf : (Instr.findKey 3 (.int .i64 2) (kEs 5).toList).run Tryz.prog w = .ok (some (1, .func (.func 28) #[] #[])) w := by kernel_rfl
  have he : (kEs 5).isEmpty = false := rfl
  simp [Instr.lookup, run_underlying Tryz.ul57, MapKept.run_getObj_map hb, hc, hf, he, Result.andThen]
set_option maxRecDepth 100000 in
theorem klook3 (w : World) (b : Nat) (hb : w.heap[b]? = some (.map (kEs 5) 5)) : (Instr.lookup 57 (.map (some b)) (.int .i64 3) false).run Tryz.prog w = .ok (.func (.func 29) #[] #[]) w := by
  have hc : (Instr.checkKey false 10000 3 (.int .i64 3)).run Tryz.prog w = .ok () w := by kernel_rfl
  have hf : (Instr.findKey 3 (.int .i64 3) (kEs 5).toList).run Tryz.prog w = .ok (some (2, .func (.func 29) #[] #[])) w := by kernel_rfl
  have he : (kEs 5).isEmpty = false := rfl
  simp [Instr.lookup, run_underlying Tryz.ul57, MapKept.run_getObj_map hb, hc, hf, he, Result.andThen]
set_option maxRecDepth 100000 in
theorem klook4 (w : World) (b : Nat) (hb : w.heap[b]? = some (.map (kEs 5) 5)) : (Instr.lookup 57 (.map (some b)) (.int .i64 4) false).run Tryz.prog w = .ok (.func (.func 30) #[] #[]) w := by
  have hc : (Instr.checkKey false 10000 3 (.int .i64 4)).run Tryz.prog w = .ok () w := by kernel_rfl
  have hf : (Instr.findKey 3 (.int .i64 4) (kEs 5).toList).run Tryz.prog w = .ok (some (3, .func (.func 30) #[] #[])) w := by kernel_rfl
  have he : (kEs 5).isEmpty = false := rfl
  simp [Instr.lookup, run_underlying Tryz.ul57, MapKept.run_getObj_map hb, hc, hf, he, Result.andThen]
set_option maxRecDepth 100000 in
theorem klook5 (w : World) (b : Nat) (hb : w.heap[b]? = some (.map (kEs 5) 5)) : (Instr.lookup 57 (.map (some b)) (.int .i64 5) false).run Tryz.prog w = .ok (.func (.func 31) #[] #[]) w := by
  have hc : (Instr.checkKey false 10000 3 (.int .i64 5)).run Tryz.prog w = .ok () w := by kernel_rfl
  have hf : (Instr.findKey 3 (.int .i64 5) (kEs 5).toList).run Tryz.prog w = .ok (some (4, .func (.func 31) #[] #[])) w := by kernel_rfl
  have he : (kEs 5).isEmpty = false := rfl
  simp [Instr.lookup, run_underlying Tryz.ul57, MapKept.run_getObj_map hb, hc, hf, he, Result.andThen]
/- the map of the kinds -/
def GaveKinds (w : World) (e : Ending) (w' : World) : Prop := ∃ mb, e = .returned (.map (some mb)) ∧ New w w' ∧ w'.heap[mb]? = some (.map (kEs 5) 5)
set_option maxRecDepth 100000 in
set_option maxHeartbeats 2000000 in
theorem kinds_any (w : World) : Calls Tryz.prog 18 #[] w (GaveKinds w) := by
  have hmm := @run_makeMap Tryz.prog
  go_enter Tryz.func18, Tryz.ntmps18
  obtain ⟨w0, hw0⟩ : ∃ w0, w0 = w.alloc (.map #[] 0) := ⟨_, rfl⟩
  have h0 : w0.heap[w.heap.size]? = some (.map (kEs 0) 0) := by rw [hw0]; exact heap_alloc_new _ _
  have hn0 : New w w0 := by rw [hw0]; exact (Fr.refl _ w).alloc _
  have k0 := kins0 w0 w.heap.size h0
  obtain ⟨w1, hw1⟩ : ∃ w', w' = setBlock w0 w.heap.size (.map (kEs 1) 1) := ⟨_, rfl⟩
  have h1 : w1.heap[w.heap.size]? = some (.map (kEs 1) 1) := by rw [hw1]; exact setBlock_get h0
  have hn1 : New w w1 := by rw [hw1]; exact hn0.next (setBlock_fr _ _ _) fun i hi => .inr (by rw [hi]; exact Nat.le_refl _)
  rw [← hw1] at k0
  have k1 := kins1 w1 w.heap.size h1
  obtain ⟨w2, hw2⟩ : ∃ w', w' = setBlock w1 w.heap.size (.map (kEs 2) 2) := ⟨_, rfl⟩
  have h2 : w2.heap[w.heap.size]? = some (.map (kEs 2) 2) := by rw [hw2]; exact setBlock_get h1
  have hn2 : New w w2 := by rw [hw2]; exact hn1.next (setBlock_fr _ _ _) fun i hi => .inr (by rw [hi]; exact Nat.le_refl _)
  rw [← hw2] at k1
  have k2 := kins2 w2 w.heap.size h2
  obtain ⟨w3, hw3⟩ : ∃ w', w' = setBlock w2 w.heap.size (.map (kEs 3) 3) := ⟨_, rfl⟩
  have h3 : w3.heap[w.heap.size]? = some (.map (kEs 3) 3) := by rw [hw3]; exact setBlock_get h2
  have hn3 : New w w3 := by rw [hw3]; exact hn2.next (setBlock_fr _ _ _) fun i hi => .inr (by rw [hi]; exact Nat.le_refl _)
  rw [← hw3] at k2
  have k3 := kins3 w3 w.heap.size h3
  obtain ⟨w4, hw4⟩ : ∃ w', w' = setBlock w3 w.heap.size (.map (kEs 4) 4) := ⟨_, rfl⟩
  have h4 : w4.heap[w.heap.size]? = some (.map (kEs 4) 4) := by rw [hw4]; exact setBlock_get h3
  have hn4 : New w w4 := by rw [hw4]; exact hn3.next (setBlock_fr _ _ _) fun i hi => .inr (by rw [hi]; exact Nat.le_refl _)
  rw [← hw4] at k3
  have k4 := kins4 w4 w.heap.size h4
  obtain ⟨w5, hw5⟩ : ∃ w', w' = setBlock w4 w.heap.size (.map (kEs 5) 5) := ⟨_, rfl⟩
  have h5 : w5.heap[w.heap.size]? = some (.map (kEs 5) 5) := by rw [hw5]; exact setBlock_get h4
  have hn5 : New w w5 := by rw [hw5]; exact hn4.next (setBlock_fr _ _ _) fun i hi => .inr (by rw [hi]; exact Nat.le_refl _)
  rw [← hw5] at k4
  rw [hw0] at k0
  have HN := Lib.hid hn5
  have HH := Lib.hid h5
  clear h0 h1 h2 h3 h4 h5 hn0 hn1 hn2 hn3 hn4 hn5 hw1 hw2 hw3 hw4 hw5 hw0
  go_wp2
  go_ret
  exact ⟨_, rfl, HN.out, HH.out⟩
end Go.Proofs.YtgjmjbgicfkojaaGreat

/- Walks: Do, of what takes crossings out. -/
namespace Go.Proofs.YtgjmjbgicfkojaaGreat
open Go.RowKit

/- a diagram and an errno -/
def GaveDo (o : Out) (w : World) (e : Ending) (w' : World) : Prop :=
  New w w' ∧ match o with
    | .no x => e = .returned (.tuple #[.agg #[.slice none 0 0, .int .i64 0], .int .i64 x])
    | .ok Y L => ∃ a c, e = .returned (.tuple #[.agg #[.slice a Y.length c, .int .i64 L], .int .i64 0]) ∧ CrsAt w' a Y ∧ ∀ ad, a = some ad → w.heap.size ≤ ad.block
theorem one_c {W : World} {B t : Nat} {a : Value} (h : W.heap[B]? = some (.cells #[a] t (0, 0))) : W.cell? ⟨B, 0, none⟩ = some a ∧ W.frozen? ⟨B, 0, none⟩ = false := by
  refine ⟨cell_of_row _ _ 0 _ t (0, 0) h, ?_⟩
  simp [World.frozen?, h]
theorem one_set {W : World} {B t : Nat} {a : Value} (h : W.heap[B]? = some (.cells #[a] t (0, 0))) (v : Value) : (W.setCell ⟨B, 0, none⟩ v).heap[B]? = some (.cells #[v] t (0, 0)) := by
  unfold World.setCell; simp [Array.getElem?_modify, h]
theorem cell_in {W : World} {B t : Nat} {cs : Array Value} (h : W.heap[B]? = some (.cells cs t (0, 0))) {j : Nat} {v : Value} (hc : W.cell? ⟨B, j, none⟩ = some v) : j < cs.size := by
  have h1 := cell_of_row W B j cs t (0, 0) h
  rw [h1] at hc
  exact (Array.getElem?_eq_some_iff.1 hc).1
/- crossings lie in no small block -/
theorem CrsAt.off {w w' : World} {B2 B3 : Nat} {p q e : Value} {a : Option Addr} {Y : List Kn.Cr} (h : CrsAt w a Y) (hR : w.heap[B2]? = some (.cells #[p, q] 24 (0, 0))) (hE : w.heap[B3]? = some (.cells #[e] 30 (0, 0))) (hF : Fr (fun k => k = B2 ∨ k = B3) w w') : CrsAt w' a Y := by
  rcases h with h0 | ⟨g, o, h1, h2⟩
  · exact .inl h0
  · refine .inr ⟨g, o, h1, fun i hi => hF.crAt (h2 i hi) ?_⟩
    have hc := (h2 i hi).p
    rintro (rfl | rfl)
    · have := cell_in hR hc
      simp at this
      omega
    · have := cell_in hE hc
      simp at this
/- a statement that comes to its end -/
theorem wp_only {P : Program} {c : Code} {Q : Exit → Act → World → Prop} {a : Act} {w : World} (h : c.wp P (fun e a' w' => match e with | .normal => Q .normal a' w' | _ => False) a w) : c.wp P Q a w :=
  wp_mono h fun e _ _ h => by
    cases e
    case normal => exact h
    all_goals exact h.elim
/- what lies where while both results are stored -/
structure Sto (w : World) (B2 B3 : Nat) (V1 V2 V3 : Value) : Prop where
  a1 : ∃ p, w.cell? ⟨B2, 0, none⟩ = some p
  a2 : w.frozen? ⟨B2, 0, none⟩ = false
  b1 : ∃ p, (w.setCell ⟨B2, 0, none⟩ V1).cell? ⟨B2, 1, none⟩ = some p
  b2 : (w.setCell ⟨B2, 0, none⟩ V1).frozen? ⟨B2, 1, none⟩ = false
  c1 : ∃ p, ((w.setCell ⟨B2, 0, none⟩ V1).setCell ⟨B2, 1, none⟩ V2).cell? ⟨B3, 0, none⟩ = some p
  c2 : ((w.setCell ⟨B2, 0, none⟩ V1).setCell ⟨B2, 1, none⟩ V2).frozen? ⟨B3, 0, none⟩ = false
  d1 : (((w.setCell ⟨B2, 0, none⟩ V1).setCell ⟨B2, 1, none⟩ V2).setCell ⟨B3, 0, none⟩ V3).cell? ⟨B2, 0, none⟩ = some V1
  d2 : (((w.setCell ⟨B2, 0, none⟩ V1).setCell ⟨B2, 1, none⟩ V2).setCell ⟨B3, 0, none⟩ V3).cell? ⟨B2, 1, none⟩ = some V2
  d3 : (((w.setCell ⟨B2, 0, none⟩ V1).setCell ⟨B2, 1, none⟩ V2).setCell ⟨B3, 0, none⟩ V3).cell? ⟨B3, 0, none⟩ = some V3
  fr : Fr (fun k => k = B2 ∨ k = B3) w (((w.setCell ⟨B2, 0, none⟩ V1).setCell ⟨B2, 1, none⟩ V2).setCell ⟨B3, 0, none⟩ V3)
theorem sto {w : World} {B2 B3 : Nat} {p q e : Value} (hR : w.heap[B2]? = some (.cells #[p, q] 24 (0, 0))) (hE : w.heap[B3]? = some (.cells #[e] 30 (0, 0))) (hne : ¬ B3 = B2) (V1 V2 V3 : Value) : Sto w B2 B3 V1 V2 V3 := by
  have hb1 := (box2_set hR V1).1
  have hb2 := (box2_set hb1 V2).2
  have hS : Fr (fun k => k = B2) w ((w.setCell ⟨B2, 0, none⟩ V1).setCell ⟨B2, 1, none⟩ V2) := by refine Fr.setCell (Fr.setCell (Fr.refl _ w) ?_ _) ?_ _ <;> exact .inl rfl
  have hE2 := hS.blk hE hne
  have hT : Fr (fun k => k = B3) ((w.setCell ⟨B2, 0, none⟩ V1).setCell ⟨B2, 1, none⟩ V2) (((w.setCell ⟨B2, 0, none⟩ V1).setCell ⟨B2, 1, none⟩ V2).setCell ⟨B3, 0, none⟩ V3) := (Fr.refl (fun k => k = B3) _).setCell (.inl rfl) _
  have hb3 := hT.blk hb2 fun e => hne e.symm
  have hE3 := one_set hE2 V3
  obtain ⟨r0, _, r2, _⟩ := box2_c hR
  obtain ⟨_, s1, _, s3⟩ := box2_c hb1
  obtain ⟨t0, t1⟩ := one_c hE2
  obtain ⟨u0, u1, _, _⟩ := box2_c hb3
  exact ⟨⟨_, r0⟩, r2, ⟨_, s1⟩, s3, ⟨_, t0⟩, t1, u0, u1, (one_c hE3).1, (hS.mono fun _ h => .inl h).trans (hT.mono fun _ h => .inr h)⟩
set_option maxRecDepth 100000 in
set_option maxHeartbeats 8000000 in
theorem do_28 (a : Option Addr) (n c : Nat) (X : List Kn.Cr) (L k x y u v : Int) (ub vb ov : Bool) (o : Out) (w : World) (hx : CrsAt w a X) (hn : n = X.length) (lx : n ≤ 9223372036854775807) (l1 : -9223372036854775808 ≤ L) (l2 : L ≤ 9223372036854775807)
    (hlk : ∀ (w : World) (b : Nat), w.heap[b]? = some (.map (kEs 5) 5) → (Instr.lookup 57 (.map (some b)) (.int .i64 k) false).run Tryz.prog w = .ok (.func (.func 28) #[] #[]) w)
    (hcall : ∀ (b s : Nat) (fv : Value) (w : World), BeAt w b s fv X L → Rows OwnD 0 71 w fv (Kn.facesL X) → Kn.Ok X → X.length ≤ 16 → 0 ≤ L → L ≤ 16 → Calls Tryz.prog 28 #[.pointer (some ⟨b, 0, none⟩), mvV k x y u v ub vb ov] w (GaveO s o w)) :
    Calls Tryz.prog 6 #[.agg #[.slice a n c, .int .i64 L], mvV k x y u v ub vb ov] w (GaveDo (if Kn.mayB X L && Kn.planarB X then o else .no 7) w) := by
  have HX := Lib.hid hx
  have HN := Lib.hid hn
  have HLK := Lib.hid hlk
  have HCALL := Lib.hid hcall
  have hnil : ∀ w, (binOp .eql 56 (.func (.func 28) #[] #[]) .nilFunc).run Tryz.prog w = .ok (.bool false) w := fun w => by kernel_rfl
  have hmf : ∀ (fn : Fn) (first cap : Array Value) (w : World), (Instr.makeFunc fn first cap).run Tryz.prog w = .ok (.func fn first cap) w := fun _ _ _ _ => rfl
  clear hx hn hlk hcall
  obtain ⟨oo, HOO⟩ : ∃ oo, Hid (oo = if Kn.mayB X L && Kn.planarB X then o else Out.no 7) := ⟨_, Lib.hid rfl⟩
  rw [← HOO.out]
  obtain ⟨w1, HW1⟩ : ∃ w1, Hid (w1 = (((w.alloc (.cells #[.slice a n c, .int .i64 L] 24)).alloc (.cells #[.int .i64 k, .int .i64 x, .int .i64 y, .int .i64 u, .bool ub, .int .i64 v, .bool vb, .bool ov] 28)).alloc (.cells #[.slice none 0 0, .int .i64 0] 24)).alloc (.cells #[.int .i64 0] 30)) := ⟨_, Lib.hid rfl⟩
  obtain ⟨B1, HB1⟩ : ∃ B, Hid (B = w.heap.size + 1) := ⟨_, Lib.hid rfl⟩
  obtain ⟨B2, HB2⟩ : ∃ B, Hid (B = w.heap.size + 1 + 1) := ⟨_, Lib.hid rfl⟩
  obtain ⟨B3, HB3⟩ : ∃ B, Hid (B = w.heap.size + 1 + 1 + 1) := ⟨_, Lib.hid rfl⟩
  have HN1 : Hid (New w w1) := Lib.hid (by rw [HW1.out]; exact ((((Fr.refl _ w).alloc _).alloc _).alloc _).alloc _)
  have HM1 : Hid (w1.heap[B1]? = some (.cells #[.int .i64 k, .int .i64 x, .int .i64 y, .int .i64 u, .bool ub, .int .i64 v, .bool vb, .bool ov] 28 (0, 0))) := Lib.hid (by
    have h := heap_alloc_new (w.alloc (.cells #[.slice a n c, .int .i64 L] 24)) (.cells #[.int .i64 k, .int .i64 x, .int .i64 y, .int .i64 u, .bool ub, .int .i64 v, .bool vb, .bool ov] 28)
    rw [World.size_alloc] at h
    rw [HW1.out, HB1.out]
    exact (((Fr.refl (fun _ => False) _).alloc _).alloc _).blk h fun x => x)
  have HR1 : Hid (w1.heap[B2]? = some (.cells #[.slice none 0 0, .int .i64 0] 24 (0, 0))) := Lib.hid (by
    have h := heap_alloc_new ((w.alloc (.cells #[.slice a n c, .int .i64 L] 24)).alloc (.cells #[.int .i64 k, .int .i64 x, .int .i64 y, .int .i64 u, .bool ub, .int .i64 v, .bool vb, .bool ov] 28)) (.cells #[.slice none 0 0, .int .i64 0] 24)
    rw [World.size_alloc, World.size_alloc] at h
    rw [HW1.out, HB2.out]
    exact ((Fr.refl (fun _ => False) _).alloc _).blk h fun x => x)
  have HE1 : Hid (w1.heap[B3]? = some (.cells #[.int .i64 0] 30 (0, 0))) := Lib.hid (by
    have h := heap_alloc_new (((w.alloc (.cells #[.slice a n c, .int .i64 L] 24)).alloc (.cells #[.int .i64 k, .int .i64 x, .int .i64 y, .int .i64 u, .bool ub, .int .i64 v, .bool vb, .bool ov] 28)).alloc (.cells #[.slice none 0 0, .int .i64 0] 24)) (.cells #[.int .i64 0] 30)
    rw [World.size_alloc, World.size_alloc, World.size_alloc] at h
    rw [HW1.out, HB3.out]
    exact h)
  have hsz1 : w1.heap.size = w.heap.size + 1 + 1 + 1 + 1 := by rw [HW1.out, World.size_alloc, World.size_alloc, World.size_alloc, World.size_alloc]
  have HSZ := Lib.hid hsz1
  clear hsz1
  go_enter_defers Tryz.func6, Tryz.ntmps6
  go_wp2_with fail
  rw [← HW1.out, ← HB3.out, ← HB2.out, ← HB1.out]
  refine (open_any a n c X L w1 (New.crs HN1.out HX.out) HN.out lx l1 l2).mono ?_
  rintro e w2 ⟨hF, h5⟩
  rcases h5 with ⟨ho, b, s, fv, rfl, hbe, hro, hb, hs⟩ | ⟨ho, rfl⟩
  · have HN2 := Lib.hid (HN1.out.trans hF)
    have HM2 := Lib.hid (hF.blk HM1.out fun x => x)
    have HR2 := Lib.hid (hF.blk HR1.out fun x => x)
    have HE2 := Lib.hid (hF.blk HE1.out fun x => x)
    have HBE := Lib.hid hbe
    have HRO := Lib.hid hro
    have HO : Hid (oo = o) := Lib.hid (by rw [HOO.out, ho]; rfl)
    have HOK : Hid (Kn.Ok X ∧ X.length ≤ 16 ∧ 0 ≤ L ∧ L ≤ 16) := Lib.hid (by
      rw [Bool.and_eq_true] at ho
      have h1 := mayB_ok ho.1
      have h2 := ho.1
      unfold Kn.mayB at h2
      simp only [Bool.and_eq_true, decide_eq_true_eq] at h2
      exact ⟨h1.1, h1.2, h2.1.1.1.2, h2.1.1.2⟩)
    have hB2s : ¬ B2 = s := by have := HSZ.out; have := HB2.out; omega
    have hB3s : ¬ B3 = s := by have := HSZ.out; have := HB3.out; omega
    have hsw : w.heap.size ≤ s := by have := HSZ.out; omega
    have hB32 : ¬ B3 = B2 := by have := HB2.out; have := HB3.out; omega
    have hB2w : w.heap.size ≤ B2 := by have := HB2.out; omega
    have hB3w : w.heap.size ≤ B3 := by have := HB3.out; omega
    clear hF ho hbe hro hb hs
    go_wp2_with fail
    have HP0 : Hid (New w2 w2.drew) := Lib.hid (Fr.refl _ w2).drew
    have hS0 := (eight_c (HP0.out.blk HM2.out fun x => x)).1
    refine wp_only ?_
    refine wp_region_held_drew (S := fun wz => wz.cell? ⟨B1, 0, none⟩ = some (.int .i64 k)) (by kernel_rfl) hS0 (fun hHeld => ?_)
    clear hS0
    generalize w2.drew = r0 at hHeld HP0 ⊢
    --BEGIN4
    refine' wpAnyH_take (i := 1) (v := _) rfl (by kernel_rfl) (by kernel_rfl) (by kernel_rfl) (fun _ _ _ h => h) (Or.inl ⟨by rfl, ?hy⟩) (by assumption) ?rest
    case hy => (intro w' hSw; (try dsimp only at hSw); go_simp <;> with_reducible rfl)
    case rest =>
    (try simp only [Act.put, List.getElem_toArray, List.getElem_cons_zero, List.getElem_cons_succ, List.setIfInBounds_toArray, List.set_cons_zero, List.set_cons_succ])
    refine' wpAnyH_take (i := 2) (v := _) rfl (by kernel_rfl) (by kernel_rfl) (by kernel_rfl) (fun _ _ _ h => h) (Or.inl ⟨by rfl, ?hy⟩) (by assumption) ?rest
    case hy => (intro w' hSw; (try dsimp only at hSw); go_simp <;> with_reducible rfl)
    case rest =>
    (try simp only [Act.put, List.getElem_toArray, List.getElem_cons_zero, List.getElem_cons_succ, List.setIfInBounds_toArray, List.set_cons_zero, List.set_cons_succ])
    refine wpAnyH_ready (rs := [0]) (by kernel_rfl) (by simp) ?_
    refine AllReadyH.cons rfl (fun K hK => ?_) AllReadyH.nil
    (try simp only [List.getElem_toArray, List.getElem_cons_zero, List.getElem_cons_succ])
    go_simp
    refine (kinds_any _).mono ?_
    rintro e r1 ⟨mb, rfl, hF, hm⟩
    have HP1 := Lib.hid (HP0.out.trans hF)
    have HMB := Lib.hid hm
    clear hF hm
    go_wp2_with fail
    refine hK.out _ _ ((eight_c (HP1.out.blk HM2.out fun x => x)).1) (fun hHeld => ?_)
    clear hK K
    (try simp only [Act.put, List.getElem_toArray, List.getElem_cons_zero, List.getElem_cons_succ, List.setIfInBounds_toArray, List.set_cons_zero, List.set_cons_succ])
    refine wpAnyH_ready (rs := [3]) (by kernel_rfl) (by simp) ?_
    refine AllReadyH.cons rfl (fun K hK => ?_) AllReadyH.nil
    (try simp only [List.getElem_toArray, List.getElem_cons_zero, List.getElem_cons_succ])
    have hl := HLK.out _ _ HMB.out
    go_simp
    clear hl
    refine hK.out _ _ ((eight_c (HP1.out.blk HM2.out fun x => x)).1) (fun hHeld => ?_)
    clear hK K
    (try simp only [Act.put, List.getElem_toArray, List.getElem_cons_zero, List.getElem_cons_succ, List.setIfInBounds_toArray, List.set_cons_zero, List.set_cons_succ])
    refine' wpAnyH_take (i := 4) (v := _) rfl (by kernel_rfl) (by kernel_rfl) (by kernel_rfl) (fun _ _ _ h => h) (Or.inl ⟨by rfl, ?hy⟩) (by assumption) ?rest
    case hy => (intro w' hSw; (try dsimp only at hSw); go_simp <;> with_reducible rfl)
    case rest =>
    (try simp only [Act.put, List.getElem_toArray, List.getElem_cons_zero, List.getElem_cons_succ, List.setIfInBounds_toArray, List.set_cons_zero, List.set_cons_succ])
    refine wpAnyH_done (by kernel_rfl) ?_ _
    --END4
    dsimp only
    have HBE1 := Lib.hid (HBE.out.new HP1.out)
    have HRO1 := Lib.hid (RowsD.new HRO.out HP1.out)
    have HN3 := Lib.hid (HN2.out.trans HP1.out)
    have HM3 := Lib.hid (HP1.out.blk HM2.out fun x => x)
    have HR3 := Lib.hid (HP1.out.blk HR2.out fun x => x)
    have HE3 := Lib.hid (HP1.out.blk HE2.out fun x => x)
    obtain ⟨m0, m1, m2, m3, m4, m5, m6, m7⟩ := eight_c HM3.out
    go_wp2_with fail
    clear m0 m1 m2 m3 m4 m5 m6 m7
    refine (HCALL.out b s fv r1 HBE1.out HRO1.out HOK.out.1 HOK.out.2.1 HOK.out.2.2.1 HOK.out.2.2.2).mono ?_
    rintro e r2 ⟨hF, hM⟩
    have HN4 : Hid (New w r2) := Lib.hid (HN3.out.next hF fun i hi => .inr (by rw [hi]; exact hsw))
    have HR4 := Lib.hid (hF.blk HR3.out hB2s)
    have HE4 := Lib.hid (hF.blk HE3.out hB3s)
    have HBE4 := Lib.hid (hF.blk HBE1.out.blk (fun e => by
      have h1 := HBE1.out.blk
      obtain ⟨v, bi, bo, h2⟩ := HBE1.out.sh.box
      rw [e, h2] at h1
      cases h1))
    clear hF
    cases o with
    | no x' =>
      obtain rfl := hM
      go_wp2
      refine leaves_cons (f := 19) (args := #[.pointer (some ⟨B2, 0, none⟩), .pointer (some ⟨B3, 0, none⟩)]) (by simp) (by simp [go_sem]) ?_
      refine (do1_panic B2 B3 24 30 x' 0 _ _ r2 (fun e => hB32 e.symm) HR4.out HE4.out).mono ?_
      rintro r u' w' ⟨rfl, rfl, hFr, h1, h2, h3⟩
      refine ⟨.tuple #[.agg #[.slice none 0 0, .int .i64 0], .int .i64 x'], by simp [results, Tryz.results6, go_sem, h1, h2, h3], HN4.out.next hFr fun i hi => .inr (by omega), ?_⟩
      rw [HO.out]
    | ok Y L' =>
      obtain ⟨rfl, ya, yc, hy0, hy1, hyc, hyf⟩ := hM
      have HYF := Lib.hid hyf
      clear hyf
      have HYC := Lib.hid hyc
      clear hyc
      obtain ⟨c0, _⟩ := box2_c HBE4.out
      obtain ⟨ny, HNY⟩ : ∃ ny, Hid (ny = Y.length) := ⟨_, Lib.hid rfl⟩
      rw [← HNY.out] at hy0
      obtain ⟨⟨_, a1⟩, a2, ⟨_, b1⟩, b2, ⟨_, c1⟩, c2, d1, d2, d3, fr⟩ := sto HR4.out HE4.out hB32 (.slice ya ny yc) (.int .i64 L') (.int .i64 0)
      have HFC : Hid (∀ w', Fr (fun k => k = B2 ∨ k = B3) r2 w' → CrsAt w' ya Y) := Lib.hid (fun w' hf => HYC.out.off HR4.out HE4.out hf)
      have HFR := Lib.hid fr
      clear fr
      go_wp2
      refine leaves_cons (f := 19) (args := #[.pointer (some ⟨B2, 0, none⟩), .pointer (some ⟨B3, 0, none⟩)]) (by simp) (by simp [go_sem]) ?_
      refine (do1_idle B2 B3 _).mono ?_
      rintro r u' w' ⟨rfl, rfl, rfl⟩
      refine ⟨.tuple #[.agg #[.slice ya ny yc, .int .i64 L'], .int .i64 0], by simp [results, Tryz.results6, go_sem, d1, d2, d3], HN4.out.next HFR.out fun i hi => .inr (by omega), ?_⟩
      rw [HO.out]
      refine ⟨ya, yc, by rw [HNY.out], HFC.out _ HFR.out, fun ad e => Nat.le_trans HN3.out.size (HYF.out ad e)⟩
  · have HN2 := Lib.hid (HN1.out.trans hF)
    have HR2 := Lib.hid (hF.blk HR1.out fun x => x)
    have HE2 := Lib.hid (hF.blk HE1.out fun x => x)
    have HO : Hid (oo = .no 7) := Lib.hid (by rw [HOO.out, ho]; rfl)
    clear hF ho
    obtain ⟨⟨_, a1⟩, a2, ⟨_, b1⟩, b2, ⟨_, c1⟩, c2, d1, d2, d3, fr⟩ := sto HR2.out HE2.out (by have := HB2.out; have := HB3.out; omega) (.slice none 0 0) (.int .i64 0) (.int .i64 7)
    have HF3 := Lib.hid (HN2.out.next fr fun i hi => .inr (by have := HB2.out; have := HB3.out; omega))
    clear fr
    go_wp2
    refine ⟨.tuple #[.agg #[.slice none 0 0, .int .i64 0], .int .i64 7], by simp [results, Tryz.results6, go_sem, d1, d2, d3], HF3.out, ?_⟩
    rw [HO.out]
set_option maxRecDepth 100000 in
set_option maxHeartbeats 8000000 in
theorem do_30 (a : Option Addr) (n c : Nat) (X : List Kn.Cr) (L k x y u v : Int) (ub vb ov : Bool) (o : Out) (w : World) (hx : CrsAt w a X) (hn : n = X.length) (lx : n ≤ 9223372036854775807) (l1 : -9223372036854775808 ≤ L) (l2 : L ≤ 9223372036854775807)
    (hlk : ∀ (w : World) (b : Nat), w.heap[b]? = some (.map (kEs 5) 5) → (Instr.lookup 57 (.map (some b)) (.int .i64 k) false).run Tryz.prog w = .ok (.func (.func 30) #[] #[]) w)
    (hcall : ∀ (b s : Nat) (fv : Value) (w : World), BeAt w b s fv X L → Rows OwnD 0 71 w fv (Kn.facesL X) → Kn.Ok X → X.length ≤ 16 → 0 ≤ L → L ≤ 16 → Calls Tryz.prog 30 #[.pointer (some ⟨b, 0, none⟩), mvV k x y u v ub vb ov] w (GaveO s o w)) :
    Calls Tryz.prog 6 #[.agg #[.slice a n c, .int .i64 L], mvV k x y u v ub vb ov] w (GaveDo (if Kn.mayB X L && Kn.planarB X then o else .no 7) w) := by
  have HX := Lib.hid hx
  have HN := Lib.hid hn
  have HLK := Lib.hid hlk
  have HCALL := Lib.hid hcall
  have hnil : ∀ w, (binOp .eql 56 (.func (.func 30) #[] #[]) .nilFunc).run Tryz.prog w = .ok (.bool false) w := fun w => by kernel_rfl
  have hmf : ∀ (fn : Fn) (first cap : Array Value) (w : World), (Instr.makeFunc fn first cap).run Tryz.prog w = .ok (.func fn first cap) w := fun _ _ _ _ => rfl
  clear hx hn hlk hcall
  obtain ⟨oo, HOO⟩ : ∃ oo, Hid (oo = if Kn.mayB X L && Kn.planarB X then o else Out.no 7) := ⟨_, Lib.hid rfl⟩
  rw [← HOO.out]
  obtain ⟨w1, HW1⟩ : ∃ w1, Hid (w1 = (((w.alloc (.cells #[.slice a n c, .int .i64 L] 24)).alloc (.cells #[.int .i64 k, .int .i64 x, .int .i64 y, .int .i64 u, .bool ub, .int .i64 v, .bool vb, .bool ov] 28)).alloc (.cells #[.slice none 0 0, .int .i64 0] 24)).alloc (.cells #[.int .i64 0] 30)) := ⟨_, Lib.hid rfl⟩
  obtain ⟨B1, HB1⟩ : ∃ B, Hid (B = w.heap.size + 1) := ⟨_, Lib.hid rfl⟩
  obtain ⟨B2, HB2⟩ : ∃ B, Hid (B = w.heap.size + 1 + 1) := ⟨_, Lib.hid rfl⟩
  obtain ⟨B3, HB3⟩ : ∃ B, Hid (B = w.heap.size + 1 + 1 + 1) := ⟨_, Lib.hid rfl⟩
  have HN1 : Hid (New w w1) := Lib.hid (by rw [HW1.out]; exact ((((Fr.refl _ w).alloc _).alloc _).alloc _).alloc _)
  have HM1 : Hid (w1.heap[B1]? = some (.cells #[.int .i64 k, .int .i64 x, .int .i64 y, .int .i64 u, .bool ub, .int .i64 v, .bool vb, .bool ov] 28 (0, 0))) := Lib.hid (by
    have h := heap_alloc_new (w.alloc (.cells #[.slice a n c, .int .i64 L] 24)) (.cells #[.int .i64 k, .int .i64 x, .int .i64 y, .int .i64 u, .bool ub, .int .i64 v, .bool vb, .bool ov] 28)
    rw [World.size_alloc] at h
    rw [HW1.out, HB1.out]
    exact (((Fr.refl (fun _ => False) _).alloc _).alloc _).blk h fun x => x)
  have HR1 : Hid (w1.heap[B2]? = some (.cells #[.slice none 0 0, .int .i64 0] 24 (0, 0))) := Lib.hid (by
    have h := heap_alloc_new ((w.alloc (.cells #[.slice a n c, .int .i64 L] 24)).alloc (.cells #[.int .i64 k, .int .i64 x, .int .i64 y, .int .i64 u, .bool ub, .int .i64 v, .bool vb, .bool ov] 28)) (.cells #[.slice none 0 0, .int .i64 0] 24)
    rw [World.size_alloc, World.size_alloc] at h
    rw [HW1.out, HB2.out]
    exact ((Fr.refl (fun _ => False) _).alloc _).blk h fun x => x)
  have HE1 : Hid (w1.heap[B3]? = some (.cells #[.int .i64 0] 30 (0, 0))) := Lib.hid (by
    have h := heap_alloc_new (((w.alloc (.cells #[.slice a n c, .int .i64 L] 24)).alloc (.cells #[.int .i64 k, .int .i64 x, .int .i64 y, .int .i64 u, .bool ub, .int .i64 v, .bool vb, .bool ov] 28)).alloc (.cells #[.slice none 0 0, .int .i64 0] 24)) (.cells #[.int .i64 0] 30)
    rw [World.size_alloc, World.size_alloc, World.size_alloc] at h
    rw [HW1.out, HB3.out]
    exact h)
  have hsz1 : w1.heap.size = w.heap.size + 1 + 1 + 1 + 1 := by rw [HW1.out, World.size_alloc, World.size_alloc, World.size_alloc, World.size_alloc]
  have HSZ := Lib.hid hsz1
  clear hsz1
  go_enter_defers Tryz.func6, Tryz.ntmps6
  go_wp2_with fail
  rw [← HW1.out, ← HB3.out, ← HB2.out, ← HB1.out]
  refine (open_any a n c X L w1 (New.crs HN1.out HX.out) HN.out lx l1 l2).mono ?_
  rintro e w2 ⟨hF, h5⟩
  rcases h5 with ⟨ho, b, s, fv, rfl, hbe, hro, hb, hs⟩ | ⟨ho, rfl⟩
  · have HN2 := Lib.hid (HN1.out.trans hF)
    have HM2 := Lib.hid (hF.blk HM1.out fun x => x)
    have HR2 := Lib.hid (hF.blk HR1.out fun x => x)
    have HE2 := Lib.hid (hF.blk HE1.out fun x => x)
    have HBE := Lib.hid hbe
    have HRO := Lib.hid hro
    have HO : Hid (oo = o) := Lib.hid (by rw [HOO.out, ho]; rfl)
    have HOK : Hid (Kn.Ok X ∧ X.length ≤ 16 ∧ 0 ≤ L ∧ L ≤ 16) := Lib.hid (by
      rw [Bool.and_eq_true] at ho
      have h1 := mayB_ok ho.1
      have h2 := ho.1
      unfold Kn.mayB at h2
      simp only [Bool.and_eq_true, decide_eq_true_eq] at h2
      exact ⟨h1.1, h1.2, h2.1.1.1.2, h2.1.1.2⟩)
    have hB2s : ¬ B2 = s := by have := HSZ.out; have := HB2.out; omega
    have hB3s : ¬ B3 = s := by have := HSZ.out; have := HB3.out; omega
    have hsw : w.heap.size ≤ s := by have := HSZ.out; omega
    have hB32 : ¬ B3 = B2 := by have := HB2.out; have := HB3.out; omega
    have hB2w : w.heap.size ≤ B2 := by have := HB2.out; omega
    have hB3w : w.heap.size ≤ B3 := by have := HB3.out; omega
    clear hF ho hbe hro hb hs
    go_wp2_with fail
    have HP0 : Hid (New w2 w2.drew) := Lib.hid (Fr.refl _ w2).drew
    have hS0 := (eight_c (HP0.out.blk HM2.out fun x => x)).1
    refine wp_only ?_
    refine wp_region_held_drew (S := fun wz => wz.cell? ⟨B1, 0, none⟩ = some (.int .i64 k)) (by kernel_rfl) hS0 (fun hHeld => ?_)
    clear hS0
    generalize w2.drew = r0 at hHeld HP0 ⊢
    --BEGIN4
    refine' wpAnyH_take (i := 1) (v := _) rfl (by kernel_rfl) (by kernel_rfl) (by kernel_rfl) (fun _ _ _ h => h) (Or.inl ⟨by rfl, ?hy⟩) (by assumption) ?rest
    case hy => (intro w' hSw; (try dsimp only at hSw); go_simp <;> with_reducible rfl)
    case rest =>
    (try simp only [Act.put, List.getElem_toArray, List.getElem_cons_zero, List.getElem_cons_succ, List.setIfInBounds_toArray, List.set_cons_zero, List.set_cons_succ])
    refine' wpAnyH_take (i := 2) (v := _) rfl (by kernel_rfl) (by kernel_rfl) (by kernel_rfl) (fun _ _ _ h => h) (Or.inl ⟨by rfl, ?hy⟩) (by assumption) ?rest
    case hy => (intro w' hSw; (try dsimp only at hSw); go_simp <;> with_reducible rfl)
    case rest =>
    (try simp only [Act.put, List.getElem_toArray, List.getElem_cons_zero, List.getElem_cons_succ, List.setIfInBounds_toArray, List.set_cons_zero, List.set_cons_succ])
    refine wpAnyH_ready (rs := [0]) (by kernel_rfl) (by simp) ?_
    refine AllReadyH.cons rfl (fun K hK => ?_) AllReadyH.nil
    (try simp only [List.getElem_toArray, List.getElem_cons_zero, List.getElem_cons_succ])
    go_simp
    refine (kinds_any _).mono ?_
    rintro e r1 ⟨mb, rfl, hF, hm⟩
    have HP1 := Lib.hid (HP0.out.trans hF)
    have HMB := Lib.hid hm
    clear hF hm
    go_wp2_with fail
    refine hK.out _ _ ((eight_c (HP1.out.blk HM2.out fun x => x)).1) (fun hHeld => ?_)
    clear hK K
    (try simp only [Act.put, List.getElem_toArray, List.getElem_cons_zero, List.getElem_cons_succ, List.setIfInBounds_toArray, List.set_cons_zero, List.set_cons_succ])
    refine wpAnyH_ready (rs := [3]) (by kernel_rfl) (by simp) ?_
    refine AllReadyH.cons rfl (fun K hK => ?_) AllReadyH.nil
    (try simp only [List.getElem_toArray, List.getElem_cons_zero, List.getElem_cons_succ])
    have hl := HLK.out _ _ HMB.out
    go_simp
    clear hl
    refine hK.out _ _ ((eight_c (HP1.out.blk HM2.out fun x => x)).1) (fun hHeld => ?_)
    clear hK K
    (try simp only [Act.put, List.getElem_toArray, List.getElem_cons_zero, List.getElem_cons_succ, List.setIfInBounds_toArray, List.set_cons_zero, List.set_cons_succ])
    refine' wpAnyH_take (i := 4) (v := _) rfl (by kernel_rfl) (by kernel_rfl) (by kernel_rfl) (fun _ _ _ h => h) (Or.inl ⟨by rfl, ?hy⟩) (by assumption) ?rest
    case hy => (intro w' hSw; (try dsimp only at hSw); go_simp <;> with_reducible rfl)
    case rest =>
    (try simp only [Act.put, List.getElem_toArray, List.getElem_cons_zero, List.getElem_cons_succ, List.setIfInBounds_toArray, List.set_cons_zero, List.set_cons_succ])
    refine wpAnyH_done (by kernel_rfl) ?_ _
    --END4
    dsimp only
    have HBE1 := Lib.hid (HBE.out.new HP1.out)
    have HRO1 := Lib.hid (RowsD.new HRO.out HP1.out)
    have HN3 := Lib.hid (HN2.out.trans HP1.out)
    have HM3 := Lib.hid (HP1.out.blk HM2.out fun x => x)
    have HR3 := Lib.hid (HP1.out.blk HR2.out fun x => x)
    have HE3 := Lib.hid (HP1.out.blk HE2.out fun x => x)
    obtain ⟨m0, m1, m2, m3, m4, m5, m6, m7⟩ := eight_c HM3.out
    go_wp2_with fail
    clear m0 m1 m2 m3 m4 m5 m6 m7
    refine (HCALL.out b s fv r1 HBE1.out HRO1.out HOK.out.1 HOK.out.2.1 HOK.out.2.2.1 HOK.out.2.2.2).mono ?_
    rintro e r2 ⟨hF, hM⟩
    have HN4 : Hid (New w r2) := Lib.hid (HN3.out.next hF fun i hi => .inr (by rw [hi]; exact hsw))
    have HR4 := Lib.hid (hF.blk HR3.out hB2s)
    have HE4 := Lib.hid (hF.blk HE3.out hB3s)
    have HBE4 := Lib.hid (hF.blk HBE1.out.blk (fun e => by
      have h1 := HBE1.out.blk
      obtain ⟨v, bi, bo, h2⟩ := HBE1.out.sh.box
      rw [e, h2] at h1
      cases h1))
    clear hF
    cases o with
    | no x' =>
      obtain rfl := hM
      go_wp2
      refine leaves_cons (f := 19) (args := #[.pointer (some ⟨B2, 0, none⟩), .pointer (some ⟨B3, 0, none⟩)]) (by simp) (by simp [go_sem]) ?_
      refine (do1_panic B2 B3 24 30 x' 0 _ _ r2 (fun e => hB32 e.symm) HR4.out HE4.out).mono ?_
      rintro r u' w' ⟨rfl, rfl, hFr, h1, h2, h3⟩
      refine ⟨.tuple #[.agg #[.slice none 0 0, .int .i64 0], .int .i64 x'], by simp [results, Tryz.results6, go_sem, h1, h2, h3], HN4.out.next hFr fun i hi => .inr (by omega), ?_⟩
      rw [HO.out]
    | ok Y L' =>
      obtain ⟨rfl, ya, yc, hy0, hy1, hyc, hyf⟩ := hM
      have HYF := Lib.hid hyf
      clear hyf
      have HYC := Lib.hid hyc
      clear hyc
      obtain ⟨c0, _⟩ := box2_c HBE4.out
      obtain ⟨ny, HNY⟩ : ∃ ny, Hid (ny = Y.length) := ⟨_, Lib.hid rfl⟩
      rw [← HNY.out] at hy0
      obtain ⟨⟨_, a1⟩, a2, ⟨_, b1⟩, b2, ⟨_, c1⟩, c2, d1, d2, d3, fr⟩ := sto HR4.out HE4.out hB32 (.slice ya ny yc) (.int .i64 L') (.int .i64 0)
      have HFC : Hid (∀ w', Fr (fun k => k = B2 ∨ k = B3) r2 w' → CrsAt w' ya Y) := Lib.hid (fun w' hf => HYC.out.off HR4.out HE4.out hf)
      have HFR := Lib.hid fr
      clear fr
      go_wp2
      refine leaves_cons (f := 19) (args := #[.pointer (some ⟨B2, 0, none⟩), .pointer (some ⟨B3, 0, none⟩)]) (by simp) (by simp [go_sem]) ?_
      refine (do1_idle B2 B3 _).mono ?_
      rintro r u' w' ⟨rfl, rfl, rfl⟩
      refine ⟨.tuple #[.agg #[.slice ya ny yc, .int .i64 L'], .int .i64 0], by simp [results, Tryz.results6, go_sem, d1, d2, d3], HN4.out.next HFR.out fun i hi => .inr (by omega), ?_⟩
      rw [HO.out]
      refine ⟨ya, yc, by rw [HNY.out], HFC.out _ HFR.out, fun ad e => Nat.le_trans HN3.out.size (HYF.out ad e)⟩
  · have HN2 := Lib.hid (HN1.out.trans hF)
    have HR2 := Lib.hid (hF.blk HR1.out fun x => x)
    have HE2 := Lib.hid (hF.blk HE1.out fun x => x)
    have HO : Hid (oo = .no 7) := Lib.hid (by rw [HOO.out, ho]; rfl)
    clear hF ho
    obtain ⟨⟨_, a1⟩, a2, ⟨_, b1⟩, b2, ⟨_, c1⟩, c2, d1, d2, d3, fr⟩ := sto HR2.out HE2.out (by have := HB2.out; have := HB3.out; omega) (.slice none 0 0) (.int .i64 0) (.int .i64 7)
    have HF3 := Lib.hid (HN2.out.next fr fun i hi => .inr (by have := HB2.out; have := HB3.out; omega))
    clear fr
    go_wp2
    refine ⟨.tuple #[.agg #[.slice none 0 0, .int .i64 0], .int .i64 7], by simp [results, Tryz.results6, go_sem, d1, d2, d3], HF3.out, ?_⟩
    rw [HO.out]
def doO (X : List Kn.Cr) (L : Int) (o : Out) : Out := if Kn.mayB X L && Kn.planarB X then o else .no 7
theorem do_un (a : Option Addr) (n c : Nat) (X : List Kn.Cr) (L x y u v : Int) (ub vb ov : Bool) (w : World) (hx : CrsAt w a X) (hn : n = X.length) (lx : n ≤ 9223372036854775807) (l1 : -9223372036854775808 ≤ L) (l2 : L ≤ 9223372036854775807) :
    Calls Tryz.prog 6 #[.agg #[.slice a n c, .int .i64 L], mvV 2 x y u v ub vb ov] w (GaveDo (doO X L (unO X L x)) w) :=
  do_28 a n c X L 2 x y u v ub vb ov _ w hx hn lx l1 l2 klook2 fun b s fv w h _ hX hl h1 h2 => uncurl_any b s fv X L 2 x y u v ub vb ov w h hX hl h1 h2
theorem do_pull (a : Option Addr) (n c : Nat) (X : List Kn.Cr) (L x y u v : Int) (ub vb ov : Bool) (w : World) (hx : CrsAt w a X) (hn : n = X.length) (lx : n ≤ 9223372036854775807) (l1 : -9223372036854775808 ≤ L) (l2 : L ≤ 9223372036854775807) :
    Calls Tryz.prog 6 #[.agg #[.slice a n c, .int .i64 L], mvV 4 x y u v ub vb ov] w (GaveDo (doO X L (pullO X L x y)) w) :=
  do_30 a n c X L 4 x y u v ub vb ov _ w hx hn lx l1 l2 klook4 fun b s fv w h hr hX hl h1 h2 => pull_any b s fv X L 4 x y u v ub vb ov w h hr hX hl h1 h2
end Go.Proofs.YtgjmjbgicfkojaaGreat
