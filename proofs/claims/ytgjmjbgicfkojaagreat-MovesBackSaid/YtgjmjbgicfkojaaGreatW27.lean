/- Words for Form's drawn region. -/
import Derived.Deep.AppendLies
import Derived.Test.YtgjmjbgicfkojaaGreatW26
namespace Go.Proofs.YtgjmjbgicfkojaaGreat
open Go.RowKit

structure RC (w0 wr : World) (D FBx mb Bc : Nat) (X : List Kn.Cr) (L : Int) (os : List Nat) (sc : Value) (N : List Nat) (cs : Array Value) : Prop where
  new : New w0 wr
  ld : w0.heap.size ≤ D
  lm : w0.heap.size ≤ mb
  box : wr.heap[D]? = some (.cells #[sc, .int .i64 L] 24 (0, 0))
  fb : wr.heap[FBx]? = some (.cells #[.map (some mb)] 80 (0, 0))
  own : wr.ownsRow w0.heap.size 75 5 sc os.length (crCells (Kn.numbered X os))
  map : NMap wr mb N
  bc : wr.heap[Bc]? = some (.cells cs 75 (0, 0))
theorem RC.call {w0 wr w' : World} {D FBx mb Bc : Nat} {X : List Kn.Cr} {L : Int} {os : List Nat} {sc : Value} {N N' : List Nat} {cs : Array Value} (h : RC w0 wr D FBx mb Bc X L os sc N cs) (hm : NMap w' mb N') (hf : Fr (fun k => k = mb) wr w') : RC w0 w' D FBx mb Bc X L os sc N' cs := by
  obtain ⟨es, ck, hmb⟩ := h.map.block
  have hne : ∀ {B : Nat} {ds : Array Value} {t : Nat}, wr.heap[B]? = some (.cells ds t (0, 0)) → ¬ B = mb := fun hb e => by subst e; rw [hb] at hmb; cases hmb
  exact ⟨h.new.next hf fun i hi => .inr (by rw [hi]; exact h.lm), h.ld, h.lm, hf.blk h.box (hne h.box), hf.blk h.fb (hne h.fb), hf.owns h.own (own_not_map h.own hmb), hm, hf.blk h.bc (hne h.bc)⟩
theorem RC.nw {w0 wr w' : World} {D FBx mb Bc : Nat} {X : List Kn.Cr} {L : Int} {os : List Nat} {sc : Value} {N : List Nat} {cs : Array Value} (h : RC w0 wr D FBx mb Bc X L os sc N cs) (hf : New wr w') : RC w0 w' D FBx mb Bc X L os sc N cs :=
  ⟨h.new.trans hf, h.ld, h.lm, hf.blk h.box fun x => x, hf.blk h.fb fun x => x, hf.owns h.own fun _ _ x => x, h.map.fr hf fun x => x, hf.blk h.bc fun x => x⟩
theorem RC.named {w0 wr : World} {D FBx mb Bc : Nat} {X : List Kn.Cr} {L : Int} {os : List Nat} {sc : Value} {N N' : List Nat} {cs : Array Value} (h : RC w0 wr D FBx mb Bc X L os sc N cs) {x v : Nat} (hx : x ≤ 1000) (hN : N.length ≤ 900) (h1 : N' = Kn.meet N x) (h2 : v = N'.idxOf x + 1) :
    Calls Tryz.prog 45 #[.int .i64 (x : Nat), .pointer (some ⟨FBx, 0, none⟩)] wr (fun e w' => e = .returned (.int .i64 (v : Nat)) ∧ RC w0 w' D FBx mb Bc X L os sc N' cs) := by
  subst h1 h2
  exact (named_any x FBx mb N wr hx hN h.fb h.map).mono fun e w' ⟨e1, e2, e3⟩ => ⟨e1, h.call e2 e3⟩
theorem RC.five {w0 wr : World} {D FBx mb Bc : Nat} {X : List Kn.Cr} {L : Int} {os : List Nat} {sc a b c d e : Value} {N : List Nat} (h : RC w0 wr D FBx mb Bc X L os sc N #[a, b, c, d, e]) :
    wr.cell? ⟨Bc, 0, none⟩ = some a ∧ wr.cell? ⟨Bc, 1, none⟩ = some b ∧ wr.cell? ⟨Bc, 2, none⟩ = some c ∧ wr.cell? ⟨Bc, 3, none⟩ = some d ∧ wr.cell? ⟨Bc, 4, none⟩ = some e :=
  ⟨cell_of_row _ _ 0 _ 75 (0, 0) h.bc, cell_of_row _ _ 1 _ 75 (0, 0) h.bc, cell_of_row _ _ 2 _ 75 (0, 0) h.bc, cell_of_row _ _ 3 _ 75 (0, 0) h.bc, cell_of_row _ _ 4 _ 75 (0, 0) h.bc⟩
theorem five_cells {w : World} {a b c d e : Value} {t : TypeId} {B : Nat} (hB : B = w.heap.size) : ∀ (j : Nat) (u : Value), [a, b, c, d, e][j]? = some u → (w.alloc (.cells #[a, b, c, d, e] t)).cell? ((⟨B, 0, none⟩ : Addr).add j) = some u := by
  subst hB; have h := heap_alloc_new w (.cells #[a, b, c, d, e] t)
  intro j u hj
  rw [addr_add, Nat.zero_add]
  match j, hj with
  | 0, hj => cases hj; exact cell_of_row _ _ 0 _ t (0, 0) h
  | 1, hj => cases hj; exact cell_of_row _ _ 1 _ t (0, 0) h
  | 2, hj => cases hj; exact cell_of_row _ _ 2 _ t (0, 0) h
  | 3, hj => cases hj; exact cell_of_row _ _ 3 _ t (0, 0) h
  | 4, hj => cases hj; exact cell_of_row _ _ 4 _ t (0, 0) h
theorem one_five (a b c d : Int) (p : Bool) : ∀ u ∈ [Value.int .i64 a, .int .i64 b, .int .i64 c, .int .i64 d, .bool p], u.oneCell' = true := by
  intro u hu
  simp only [List.mem_cons, List.not_mem_nil, or_false] at hu
  rcases hu with rfl | rfl | rfl | rfl | rfl <;> rfl
theorem RC.app {w0 wr w' : World} {D FBx mb Bc m : Nat} {X : List Kn.Cr} {L : Int} {os : List Nat} {sc sc' : Value} {N : List Nat} {cs : Array Value} {o : Obj} {vs : List Value} (h : RC w0 wr D FBx mb Bc X L os sc N cs)
    (_hown : w'.ownsRow w0.heap.size 75 5 sc' m vs) (hg : (wr.alloc o).grownBy w' sc.ownBlock) (hb : ¬ sc.ownBlock = some Bc) : w'.heap[D]? = some (.cells #[sc, .int .i64 L] 24 (0, 0)) ∧ w'.heap[Bc]? = some (.cells cs 75 (0, 0)) := by
  have hF : Fr (fun k => sc.ownBlock = some k) wr w' := ((Fr.refl _ wr).alloc o).grown hg fun k e => .inl e
  exact ⟨hF.blk h.box (blk_not_own h.box h.own (by decide)), hF.blk h.bc hb⟩
theorem RC.end_ {w0 wr w' : World} {D FBx mb Bc : Nat} {X : List Kn.Cr} {L : Int} {os : List Nat} {sc sc' : Value} {N : List Nat} {cs : Array Value} {o : Obj} {c v1 v2 v3 v4 : Nat} {p : Bool} (h : RC w0 wr D FBx mb Bc X L os sc N cs)
    (hN : N = Kn.firsts ((os ++ [c]).flatMap (Kn.arcsOf X))) (hx : (Kn.cr X c).ren (fun a => (Kn.firsts ((os ++ [c]).flatMap (Kn.arcsOf X))).idxOf a + 1) = ⟨v1, v2, v3, v4, p⟩)
    (hown : w'.ownsRow w0.heap.size 75 5 sc' (os.length + 1) (crCells (Kn.numbered X os) ++ [.int .i64 (v1 : Nat), .int .i64 (v2 : Nat), .int .i64 (v3 : Nat), .int .i64 (v4 : Nat), .bool p])) (hg : (wr.alloc o).grownBy w' sc.ownBlock) : FC w0 (w'.setCell ⟨D, 0, none⟩ sc') D FBx mb X L (os ++ [c]) sc' := by
  have hF : Fr (fun k => sc.ownBlock = some k) wr w' := ((Fr.refl _ wr).alloc o).grown hg fun k e => .inl e
  have hbD := hF.blk h.box (blk_not_own h.box h.own (by decide)); have hbF := hF.blk h.fb (blk_not_own h.fb h.own (by decide)); have hS : Fr (fun k => k = D) w' (w'.setCell ⟨D, 0, none⟩ sc') := (Fr.refl (fun k => k = D) w').setCell (.inl rfl) _; obtain ⟨es, ck, hmb⟩ := h.map.block
  have hm' := h.map.fr hF fun e => own_not_map h.own hmb _ e rfl
  obtain ⟨es', ck', hmb'⟩ := hm'.block
  refine ⟨(h.new.next hF fun i hi => .inr (own_lb h.own i hi)).next hS fun i hi => .inr (by rw [hi]; exact h.ld), h.ld, h.lm, (box2_set hbD sc').1, hS.blk hbF (fun e => by subst e; rw [hbD] at hbF; simp at hbF), ?_, ?_⟩
  · rw [Kn.numbered_snoc, hx, crCells_snoc, List.length_append, List.length_singleton]
    exact hS.owns hown fun k hk e => blk_not_own hbD hown (by decide) (e ▸ hk)
  · rw [← hN]
    exact hm'.fr hS (fun e => by rw [e, hbD] at hmb'; cases hmb')
end Go.Proofs.YtgjmjbgicfkojaaGreat
