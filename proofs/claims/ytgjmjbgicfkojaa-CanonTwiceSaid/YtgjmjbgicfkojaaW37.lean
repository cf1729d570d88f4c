/- Walks: renamed. -/
import Derived.Test.YtgjmjbgicfkojaaW36
namespace Go.Proofs.Ytgjmjbgicfkojaa
open Go.RowKit

structure RnI (w wr : World) (bv : Array Value) (nb : Nat) (m : Nat) (t : Nat → Nat) : Prop where
  new : New w wr
  bx : wr.heap[w.heap.size]? = some (.cells bv 24 (0, 0))
  row : wr.rowIs nb 3 m (numFn t)
  res : wr.heap[w.heap.size + 1]? = some (.cells #[.slice none 0 0, .int .i64 0] 24 (0, 0))
  lb : w.heap.size + 2 ≤ nb
section
variable {w wr w' : World} {bv : Array Value} {nb m : Nat} {t u : Nat → Nat}
theorem RnI.nw (h : RnI w wr bv nb m t) (hf : New wr w') : RnI w w' bv nb m t :=
  ⟨h.new.trans hf, hf.blk h.bx fun x => x, hf.row h.row fun x => x, hf.blk h.res fun x => x, h.lb⟩
theorem RnI.fr (h : RnI w wr bv nb m t) (hF : Fr (fun j => j = nb) wr w') (hr : w'.rowIs nb 3 m (numFn u)) : RnI w w' bv nb m u := by
  have hl := h.lb
  exact ⟨h.new.next hF fun i hi => .inr (by omega), hF.blk h.bx (by omega), hr, hF.blk h.res (by omega), h.lb⟩
theorem RnI.put (h : RnI w wr bv nb m t) (a v : Nat) : RnI w (wr.setCell ⟨nb, a, none⟩ (.int .i64 (v : Nat))) bv nb m fun x => if x = a then v else t x :=
  h.fr ((Fr.refl (fun j => j = nb) wr).setCell (a := ⟨nb, a, none⟩) (.inl rfl) _) (rowIs_setN h.row a v)
theorem RnI.swap (h : RnI w wr bv nb m t) (x y : Nat) : RnI w ((wr.setCell ⟨nb, x, none⟩ (.int .i64 (t y : Nat))).setCell ⟨nb, y, none⟩ (.int .i64 (t x : Nat))) bv nb m fun a => t (Kn.swp x y a) :=
  h.fr (((Fr.refl (fun j => j = nb) wr).setCell (a := ⟨nb, x, none⟩) (.inl rfl) _).setCell (a := ⟨nb, y, none⟩) (.inl rfl) _) (rowIs_swap h.row x y)
theorem RnI.congr (h : RnI w wr bv nb m t) (e : ∀ x, x < m → u x = t x) : RnI w wr bv nb m u :=
  ⟨h.new, h.bx, rowIs_congr h.row fun j hj => by unfold numFn; rw [e j hj], h.res, h.lb⟩
end

structure RnJ (w wr : World) (bv : Array Value) (nb ob nn : Nat) (t : Nat → Nat) (L : Int) (Y : List Kn.Cr) (sc : Value) : Prop where
  i : RnI w wr bv nb (nn + 1) t
  bo : wr.heap[ob]? = some (.cells #[sc, .int .i64 L] 24 (0, 0))
  lo : nb < ob
  own : wr.ownsRow w.heap.size 42 5 sc Y.length (crCells Y)
theorem RnJ.nw {w wr w' : World} {bv : Array Value} {nb ob nn : Nat} {t : Nat → Nat} {L : Int} {Y : List Kn.Cr} {sc : Value} (h : RnJ w wr bv nb ob nn t L Y sc) (hf : New wr w') : RnJ w w' bv nb ob nn t L Y sc :=
  ⟨h.i.nw hf, hf.blk h.bo fun x => x, h.lo, hf.owns h.own fun _ _ x => x⟩

theorem RnJ.kept {w wr w7 : World} {bv : Array Value} {nb ob nn : Nat} {t : Nat → Nat} {L : Int} {Y : List Kn.Cr} {sc : Value} {o : Obj} (h : RnJ w wr bv nb ob nn t L Y sc) (hg : (wr.alloc o).grownBy w7 sc.ownBlock) : RnI w w7 bv nb (nn + 1) t :=
  ⟨(h.i.new.alloc o).grown hg fun k e => .inr (own_lb h.own k e), row_app h.i.bx h.own (by decide) hg, (h.i.row.alloc o).of_block (hg.block nb (h.i.row.alloc o).lt fun hk => own_ne h.own h.i.row (by decide) nb hk.symm rfl), row_app h.i.res h.own (by decide) hg, h.i.lb⟩
/- the append, and the store into the box -/
theorem RnJ.push {w wr w7 : World} {bv : Array Value} {nb ob nn k : Nat} {t : Nat → Nat} {L : Int} {Y : List Kn.Cr} {sc sc' : Value} {o : Obj} {x : Kn.Cr} (h : RnJ w wr bv nb ob nn t L Y sc) (hk : k = Y.length)
    (hown : w7.ownsRow w.heap.size 42 5 sc' (k + 1) (crCells Y ++ [.int .i64 x.a, .int .i64 x.b, .int .i64 x.c, .int .i64 x.d, .bool x.p])) (hg : (wr.alloc o).grownBy w7 sc.ownBlock) :
    RnJ w (w7.setCell ⟨ob, 0, none⟩ sc') bv nb ob nn t L (Y ++ [x]) sc' := by
  subst hk
  have hbo := row_app h.bo h.own (by decide) hg
  have hi : RnI w w7 bv nb (nn + 1) t := ⟨(h.i.new.alloc o).grown hg fun k e => .inr (own_lb h.own k e), row_app h.i.bx h.own (by decide) hg, (h.i.row.alloc o).of_block (hg.block nb (h.i.row.alloc o).lt fun hk => own_ne h.own h.i.row (by decide) nb hk.symm rfl), row_app h.i.res h.own (by decide) hg, h.i.lb⟩
  have hF : Fr (fun j => j = ob) w7 (w7.setCell ⟨ob, 0, none⟩ sc') := (Fr.refl (fun j => j = ob) w7).setCell (a := ⟨ob, 0, none⟩) (.inl rfl) _
  have hl := h.lo
  have hlb := h.i.lb
  refine ⟨⟨hi.new.next hF fun i hj => .inr (by omega), hF.blk hi.bx (by omega), hF.row hi.row (by omega), hF.blk hi.res (by omega), hi.lb⟩, (box2_set hbo sc').1, h.lo, ?_⟩
  rw [crCells_snoc, List.length_append, List.length_singleton]
  exact hF.owns hown fun k hk e => blk_not_own hbo hown (by decide) (e ▸ hk)
theorem RnJ.store {w wr w7 : World} {bv : Array Value} {nb ob nn : Nat} {t : Nat → Nat} {L : Int} {Y : List Kn.Cr} {sc : Value} {o : Obj} (h : RnJ w wr bv nb ob nn t L Y sc) (hg : (wr.alloc o).grownBy w7 sc.ownBlock) : w7.heap[ob]? = some (.cells #[sc, .int .i64 L] 24 (0, 0)) := row_app h.bo h.own (by decide) hg

/- two crossings of the row turned -/
theorem RnJ.swap {w wr : World} {bv : Array Value} {nb ob nn n g c x y : Nat} {t f : Nat → Nat} {L : Int} {X : List Kn.Cr} (h : RnJ w wr bv nb ob nn t L (Kn.renL X f t) (.slice (some ⟨g, 0, none⟩) n c)) (hn : n = X.length) (hx : x < X.length) (hy : y < X.length)
    {xc yc : Kn.Cr} (ex : Kn.cr (Kn.renL X f t) x = xc) (ey : Kn.cr (Kn.renL X f t) y = yc) :
    RnJ w (set5 (set5 wr g x yc.a yc.b yc.c yc.d yc.p) g y xc.a xc.b xc.c xc.d xc.p) bv nb ob nn t L (Kn.renL X (fun a => f (Kn.swp x y a)) t) (.slice (some ⟨g, 0, none⟩) n c) := by
  subst ex ey
  have hown := h.own
  rw [Kn.renL_len, ← hn] at hown
  have h1 := own_set5 hown (j := x) (by rw [Kn.renL_len]; exact hx) (Kn.cr (Kn.renL X f t) y)
  have h2 := own_set5 h1 (j := y) (by rw [List.length_set, Kn.renL_len]; exact hy) (Kn.cr (Kn.renL X f t) x)
  rw [renL_swap hx hy] at h2
  have hF := (fr_set5 wr g x (Kn.cr (Kn.renL X f t) y).a (Kn.cr (Kn.renL X f t) y).b (Kn.cr (Kn.renL X f t) y).c (Kn.cr (Kn.renL X f t) y).d (Kn.cr (Kn.renL X f t) y).p).trans (fr_set5 _ g y (Kn.cr (Kn.renL X f t) x).a (Kn.cr (Kn.renL X f t) x).b (Kn.cr (Kn.renL X f t) x).c (Kn.cr (Kn.renL X f t) x).d (Kn.cr (Kn.renL X f t) x).p)
  have e : (Value.slice (some ⟨g, 0, none⟩) n c).ownBlock = some g := rfl
  have n1 : ∀ {B : Nat} {cs : Array Value} {t : Nat}, wr.heap[B]? = some (.cells cs t (0, 0)) → 42 ≠ t → ¬ B = g := fun hb ht hB => blk_not_own hb hown ht (by rw [e, hB])
  refine ⟨⟨h.i.new.next hF fun i hi => .inr (by have := own_lb hown g e; omega), hF.blk h.i.bx (n1 h.i.bx (by decide)), hF.row h.i.row (fun hB => own_ne hown h.i.row (by decide) g e hB.symm), hF.blk h.i.res (n1 h.i.res (by decide)), h.i.lb⟩, hF.blk h.bo (n1 h.bo (by decide)), h.lo, ?_⟩
  rw [Kn.renL_len, ← hn]
  exact h2

structure RnK (w wr : World) (bv : Array Value) (nb ob nn : Nat) (t : Nat → Nat) (L : Int) (Y : List Kn.Cr) (sc : Value) (B2 : Nat) (cs : Array Value) : Prop where
  J : RnJ w wr bv nb ob nn t L Y sc
  bc : wr.heap[B2]? = some (.cells cs 42 (0, 0))
theorem RnK.nw {w wr w' : World} {bv : Array Value} {nb ob nn : Nat} {t : Nat → Nat} {L : Int} {Y : List Kn.Cr} {sc : Value} {B2 : Nat} {cs : Array Value} (h : RnK w wr bv nb ob nn t L Y sc B2 cs) (hf : New wr w') : RnK w w' bv nb ob nn t L Y sc B2 cs :=
  ⟨h.J.nw hf, hf.blk h.bc fun x => x⟩
/- behind the append the crossing and the numbers lie as they lay; and behind the store -/
theorem RnK.app {w wr w7 : World} {bv : Array Value} {nb ob nn k B2 : Nat} {t : Nat → Nat} {L : Int} {Y : List Kn.Cr} {sc sc' : Value} {o : Obj} {x : Kn.Cr} {cs : Array Value} (h : RnK w wr bv nb ob nn t L Y sc B2 cs) (hk : k = Y.length)
    (hown : w7.ownsRow w.heap.size 42 5 sc' (k + 1) (crCells Y ++ [.int .i64 x.a, .int .i64 x.b, .int .i64 x.c, .int .i64 x.d, .bool x.p])) (hg : (wr.alloc o).grownBy w7 sc.ownBlock) (hb : ¬ sc.ownBlock = some B2) :
    (RnI w w7 bv nb (nn + 1) t ∧ w7.heap[B2]? = some (.cells cs 42 (0, 0))) ∧ RnK w (w7.setCell ⟨ob, 0, none⟩ sc') bv nb ob nn t L (Y ++ [x]) sc' B2 cs := by
  have hF : Fr (fun k => sc.ownBlock = some k) wr w7 := ((Fr.refl _ wr).alloc o).grown hg fun k e => .inl e
  have hbc := hF.blk h.bc hb
  have hbo := h.J.store hg
  have hne : ¬ B2 = ob := fun e => by subst e; rw [hbo] at hbc; cases hbc
  exact ⟨⟨h.J.kept hg, hbc⟩, h.J.push hk hown hg, ((Fr.refl (fun j => j = ob) w7).setCell (a := ⟨ob, 0, none⟩) (.inl rfl) _).blk hbc hne⟩

def GaveRen (X : List Kn.Cr) (L : Int) (w : World) (e : Ending) (w' : World) : Prop :=
  ∃ f t sc, Kn.Pos X.length f ∧ Kn.Nums (2 * X.length) t ∧ e = .returned (.agg #[sc, .int .i64 L]) ∧ w'.ownsRow w.heap.size 42 5 sc X.length (crCells (Kn.renL X f t)) ∧ New w w'
theorem RnJ.gave {w wr : World} {bv : Array Value} {nb ob nn : Nat} {t f : Nat → Nat} {L : Int} {X : List Kn.Cr} {sc : Value} (h : RnJ w wr bv nb ob nn t L (Kn.renL X f t) sc) (hn : nn = 2 * X.length) (hp : Kn.Pos X.length f) (ht : Kn.Nums nn t) :
    GaveRen X L w (.returned (.agg #[sc, .int .i64 L])) ((wr.setCell ⟨w.heap.size + 1, 0, none⟩ sc).setCell ⟨w.heap.size + 1, 1, none⟩ (.int .i64 L)) := by
  have hF : Fr (fun k => k = w.heap.size + 1) wr ((wr.setCell ⟨w.heap.size + 1, 0, none⟩ sc).setCell ⟨w.heap.size + 1, 1, none⟩ (.int .i64 L)) := by refine Fr.setCell (Fr.setCell (Fr.refl _ wr) ?_ _) ?_ _ <;> exact .inl rfl
  have hown := h.own
  rw [Kn.renL_len] at hown
  exact ⟨f, t, sc, hp, hn ▸ ht, rfl, hF.owns hown fun k hk e => blk_not_own h.i.res hown (by decide) (e ▸ hk), h.i.new.next hF fun i hi => .inr (by omega)⟩

set_option maxRecDepth 100000 in
set_option maxHeartbeats 8000000 in
theorem renamed_any (a a1 a2 : Option Addr) (n c k1 c1 k2 c2 : Nat) (X : List Kn.Cr) (L : Int) (z1 z2 : List Int) (w : World) (hx : CrsAt w a X) (hn : n = X.length) (hm : Kn.mayB X L = true) (h0 : 0 < n)
    (hz1 : RawAt w a1 z1) (hk1 : k1 = z1.length) (hz2 : RawAt w a2 z2) (hk2 : k2 = z2.length) :
    Calls Try.prog 11 #[.agg #[.slice a n c, .int .i64 L], .slice a1 k1 c1, .slice a2 k2 c2] w (GaveRen X L w) := by
  have HN := Lib.hid hn
  have HX := Lib.hid hx
  have HOK := Lib.hid (mayB_ok hm)
  have HZ1 := Lib.hid hz1
  have HZ2 := Lib.hid hz2
  have HK1 := Lib.hid hk1
  have HK2 := Lib.hid hk2
  have hn16 : n ≤ 16 := by have := HOK.out.2; omega
  have hk1m : k1 ≤ 9223372036854775807 := by have := hz1.len; omega
  have hk2m : k2 ≤ 9223372036854775807 := by have := hz2.len; omega
  clear hx hn hm hz1 hz2 hk1 hk2
  obtain ⟨nn, HNN⟩ : ∃ nn, Hid (nn = 2 * n) := ⟨_, Lib.hid rfl⟩
  have hnn1 : 2 ≤ nn := by have := HNN.out; omega
  have hnn2 : nn ≤ 32 := by have := HNN.out; omega
  have hnn : (2 : Int) * (n : Int) = (nn : Int) := by have := HNN.out; omega
  have hmk : ∀ w, (Instr.makeSlice 35 (.int .i64 ((nn : Int) + 1)) (.int .i64 ((nn : Int) + 1))).run Try.prog w = .ok (.slice (some ⟨w.heap.size, 0, none⟩) (nn + 1) (nn + 1)) (w.alloc (.cells (madeCells #[.int .i64 0] (nn + 1)) 3)) := fun w => by
    have := run_make_row' (P := Try.prog) 35 3 (.int .i64 0) 8 Try.underlying35 Try.info3 rfl .i64 .i64 (nn + 1) (by omega) (by omega) w
    rwa [show ((nn + 1 : Nat) : Int) = (nn : Int) + 1 by omega] at this
  obtain ⟨i0, hi0, hz0, hz1, hz2⟩ := info_parts Try.info42
  go_enter Try.func11, Try.ntmps11
  go_wp2
  obtain ⟨w1, HW1⟩ : ∃ w1, Hid (w1 = (((w.alloc (.cells #[.slice a n c, .int .i64 L] 24)).alloc (.cells #[.slice none 0 0, .int .i64 0] 24)).alloc (.cells (madeCells #[.int .i64 0] (nn + 1)) 3))) := ⟨_, Lib.hid rfl⟩
  obtain ⟨nb, HNB⟩ : ∃ nb, Hid (nb = w.heap.size + 1 + 1) := ⟨_, Lib.hid rfl⟩
  rw [← HW1.out, ← HNB.out]
  obtain ⟨bv, HBV⟩ : ∃ bv : Array Value, Hid (bv = #[.slice a n c, .int .i64 L]) := ⟨_, Lib.hid rfl⟩
  have H1 : Hid (RnI w w1 bv nb (nn + 1) fun j => if j < 0 then j else 0) := Lib.hid (by
    have h1 := (((Fr.refl (fun _ => False) (w.alloc (.cells #[.slice a n c, .int .i64 L] 24))).alloc (.cells #[.slice none 0 0, .int .i64 0] 24)).alloc (.cells (madeCells #[.int .i64 0] (nn + 1)) 3)).blk (heap_alloc_new w (.cells #[.slice a n c, .int .i64 L] 24)) fun x => x
    have h2 := heap_alloc_new (w.alloc (.cells #[.slice a n c, .int .i64 L] 24)) (.cells #[.slice none 0 0, .int .i64 0] 24)
    rw [World.size_alloc] at h2
    have h3 := World.rowIs_made ((w.alloc (.cells #[.slice a n c, .int .i64 L] 24)).alloc (.cells #[.slice none 0 0, .int .i64 0] 24)) (.int .i64 0) (nn + 1) 3
    rw [World.size_alloc, World.size_alloc] at h3
    rw [HW1.out, HNB.out, HBV.out]
    refine ⟨(((Fr.refl _ w).alloc _).alloc _).alloc _, h1, rowIs_congr h3 fun j _ => rfl, ((Fr.refl (fun _ => False) _).alloc _).blk h2 fun x => x, by omega⟩)
  go_loopw [9] (fun i wr => ∃ q : Nat, q ≤ nn + 1 ∧ i = .int .i64 q ∧ Hid (RnI w wr bv nb (nn + 1) fun j => if j < q then j else 0)) (fun i _ => (nn + 1) - (intOf i).toNat)
  case atStart => exact ⟨0, by omega, rfl, H1⟩
  case round =>
    obtain ⟨q, hq, rfl, HR⟩ := hrel
    by_cases hlt : q ≤ nn
    · have i1 : (0 : Int) ≤ (q : Int) := by omega
      have i2 : (q : Int) < (nn : Int) + 1 := by omega
      have hc := HR.out.row.cell (i := q) (by omega)
      have hf := HR.out.row.frozen q
      go_wp2
      go_roundw
      case rel =>
        refine ⟨q + 1, by omega, by go_num, Lib.hid ((HR.out.put q q).congr fun x hx => ?_)⟩
        by_cases e : x = q
        · subst e; rw [if_pos (by omega), if_pos rfl]
        · rw [if_neg e]
          by_cases e' : x < q
          · rw [if_pos e', if_pos (by omega)]
          · rw [if_neg e', if_neg (by omega)]
      case measure => simp [intOf]; omega
    · have hqn : q = nn + 1 := by omega
      have HR2 : Hid (RnI w wr bv nb (nn + 1) fun j => j) := Lib.hid (HR.out.congr fun x hx => by rw [if_pos (by omega)])
      have hqn1 : (nn : Int) < (q : Int) := by omega
      have hqn2 : decide (q ≤ nn) = false := by simp; omega
      have hqn3 : decide ((q : Int) ≤ (nn : Int)) = false := by simp; omega
      clear HR hlt hqn hq
      go_wp2
      obtain ⟨wo, rfl⟩ : ∃ wo, wo = wr := ⟨_, rfl⟩
      go_loopw [10] (fun i wr => ∃ (q : Nat) (t : Nat → Nat), q ≤ k1 ∧ i = .int .i64 q ∧ Hid (Kn.Nums nn t) ∧ Hid (RnI w wr bv nb (nn + 1) t)) (fun i _ => k1 - (intOf i).toNat)
      case atStart => exact ⟨0, _, by omega, rfl, Lib.hid (Kn.Nums.id nn), HR2⟩
      case round =>
        obtain ⟨q, t, hq, rfl, HT, HR⟩ := hrel
        have h1n : (1 : Int) < (nn : Int) := by omega
        by_cases hlt : q < k1
        · obtain ⟨zb, zo, z, rfl, hz, hz1, hz2⟩ := (New.raw HR.out.new HZ1.out).get (i := q) (by have := HK1.out; omega)
          obtain ⟨k, hk, hcall⟩ := picked_nat z nn hz1 hz2 (by omega) (by omega)
          obtain ⟨x, HYtgjmjbgicfkojaa⟩ : ∃ x, Hid (x = 1 + k) := ⟨_, Lib.hid rfl⟩
          obtain ⟨yq, HYQ⟩ : ∃ yq, Hid (yq = q % nn) := ⟨_, Lib.hid rfl⟩
          obtain ⟨y, HYY⟩ : ∃ y, Hid (y = 1 + yq) := ⟨_, Lib.hid rfl⟩
          have hyq : yq < nn := by rw [HYQ.out]; exact Nat.mod_lt _ (by omega)
          have e1 : (1 : Int) + (k : Int) = (x : Int) := by have := HYtgjmjbgicfkojaa.out; omega
          have e2 : (q : Int) % (nn : Int) = (yq : Int) := by rw [HYQ.out]; exact (Int.natCast_emod q nn).symm
          have e3 : (1 : Int) + (yq : Int) = (y : Int) := by have := HYY.out; omega
          have hx0 : (0 : Int) ≤ (x : Int) := by omega
          have hx1 : (x : Int) < (nn : Int) + 1 := by omega
          have hy0 : (0 : Int) ≤ (y : Int) := by omega
          have hy1 : (y : Int) < (nn : Int) + 1 := by omega
          have i1 : (0 : Int) ≤ (q : Int) := by omega
          have i2 : (q : Int) < (k1 : Int) := by omega
          have HC := Lib.hid hcall
          clear hcall
          go_wp2
          go_quiet (first | (go_at_call 20; refine Calls.quiet_of_same (HC.out _)))
          obtain ⟨w2, HW2⟩ : ∃ w2, Hid (w2 = wr.drewN nq) := ⟨_, Lib.hid rfl⟩
          rw [← HW2.out]
          have HR2 : Hid (RnI w w2 bv nb (nn + 1) t) := Lib.hid (by rw [HW2.out]; exact HR.out.nw ((Fr.refl _ wr).drewN _))
          have hcx := HR2.out.row.cell (i := x) (by omega)
          have hcy := HR2.out.row.cell (i := y) (by omega)
          simp only [numFn] at hcx hcy
          have hfx := HR2.out.row.frozen x
          have hfy := HR2.out.row.frozen y
          obtain ⟨tx, HTX⟩ : ∃ tx, Hid (tx = t x) := ⟨_, Lib.hid rfl⟩
          obtain ⟨ty, HTY⟩ : ∃ ty, Hid (ty = t y) := ⟨_, Lib.hid rfl⟩
          rw [← HTX.out] at hcx
          rw [← HTY.out] at hcy
          have hcz := (HR2.out.put x ty).row.cell (i := y) (by omega)
          have hfz := (HR2.out.put x ty).row.frozen y
          simp only [numFn] at hcz
          have HRS : Hid (RnI w ((w2.setCell ⟨nb, x, none⟩ (.int .i64 (ty : Nat))).setCell ⟨nb, y, none⟩ (.int .i64 (tx : Nat))) bv nb (nn + 1) fun a => t (Kn.swp x y a)) := Lib.hid (by rw [HTX.out, HTY.out]; exact HR2.out.swap x y)
          go_wp2
          go_region
          go_wp2
          go_roundw
          case rel => exact ⟨q + 1, _, by omega, by go_num, Lib.hid (HT.out.swap (x := x) (y := y) (by omega) (by omega) (by omega) (by omega)), Lib.hid (HRS.out.nw ((Fr.refl _ _).drew))⟩
          case measure => simp [intOf]; omega
        · obtain rfl : q = k1 := by omega
          have hbx := HR.out.bx
          rw [HBV.out] at hbx
          obtain ⟨p0, p1, _, _⟩ := box2_c hbx
          clear hbx
          have HJ0 : Hid (RnJ w (wr.alloc (.cells #[.slice none 0 0, .int .i64 L] 24)) bv nb wr.heap.size nn t L ((Kn.renL X (fun a => a) t).take 0) (.slice none 0 0)) := Lib.hid
            ⟨HR.out.nw ((Fr.refl _ wr).alloc _), heap_alloc_new _ _, HR.out.row.lt, by rw [List.take_zero]; exact ⟨rfl, .inl ⟨rfl, rfl⟩⟩⟩
          go_wp2
          clear p0 p1
          obtain ⟨ob, HOB⟩ : ∃ ob, Hid (ob = wr.heap.size) := ⟨_, Lib.hid rfl⟩
          rw [← HOB.out] at HJ0 ⊢
          obtain ⟨wp, rfl⟩ : ∃ wp, wp = wr := ⟨_, rfl⟩
          go_loopw [14] (fun i wr => ∃ (k : Nat) (sc : Value), k ≤ n ∧ i = .int .i64 k ∧ Hid (RnJ w wr bv nb ob nn t L ((Kn.renL X (fun a => a) t).take k) sc)) (fun i _ => n - (intOf i).toNat)
          case atStart => exact ⟨0, _, by omega, rfl, HJ0⟩
          case round =>
            obtain ⟨k, sc, hk, rfl, HJ⟩ := hrel
            have hbx := HJ.out.i.bx
            rw [HBV.out] at hbx
            obtain ⟨p0, p1, _, _⟩ := box2_c hbx
            clear hbx
            by_cases hkn : k < n
            · have hkX : k < X.length := by have := HN.out; omega
              obtain ⟨xb, xo, rfl, hxk⟩ := (New.crs HJ.out.i.new HX.out).at hkX
              obtain ⟨e1, e2, e3, e4, e5⟩ := arc_nat HOK.out.1 hkX
              obtain ⟨na, HNA⟩ : ∃ na, Hid (na = Kn.arcN X (k, 0)) := ⟨_, Lib.hid rfl⟩
              obtain ⟨nb', HNB'⟩ : ∃ na, Hid (na = Kn.arcN X (k, 1)) := ⟨_, Lib.hid rfl⟩
              obtain ⟨nc, HNC⟩ : ∃ na, Hid (na = Kn.arcN X (k, 2)) := ⟨_, Lib.hid rfl⟩
              obtain ⟨nd, HND⟩ : ∃ na, Hid (na = Kn.arcN X (k, 3)) := ⟨_, Lib.hid rfl⟩
              have ha : na < nn + 1 := by have := e5 0 (by omega); rw [← HNA.out] at this; have := HNN.out; have := HN.out; omega
              have hb : nb' < nn + 1 := by have := e5 1 (by omega); rw [← HNB'.out] at this; have := HNN.out; have := HN.out; omega
              have hc : nc < nn + 1 := by have := e5 2 (by omega); rw [← HNC.out] at this; have := HNN.out; have := HN.out; omega
              have hd : nd < nn + 1 := by have := e5 3 (by omega); rw [← HND.out] at this; have := HNN.out; have := HN.out; omega
              rw [← HNA.out] at e1
              rw [← HNB'.out] at e2
              rw [← HNC.out] at e3
              rw [← HND.out] at e4
              obtain ⟨x1, x2, x3, x4, x5⟩ := hxk
              rw [e1] at x1
              rw [e2] at x2
              rw [e3] at x3
              rw [e4] at x4
              obtain ⟨xp, HXP⟩ : ∃ xp, Hid (xp = (Kn.cr X k).p) := ⟨_, Lib.hid rfl⟩
              rw [← HXP.out] at x5
              have HE : Hid (((Kn.cr X k).a = (na : Int)) ∧ ((Kn.cr X k).b = (nb' : Int)) ∧ ((Kn.cr X k).c = (nc : Int)) ∧ ((Kn.cr X k).d = (nd : Int))) := Lib.hid ⟨e1, e2, e3, e4⟩
              have i1 : (0 : Int) ≤ (k : Int) := by omega
              have i2 : (k : Int) < (n : Int) := by omega
              clear e1 e2 e3 e4 e5
              have hown := HJ.out.own
              have hlk : ((Kn.renL X (fun a => a) t).take k).length = k := by rw [List.length_take, Kn.renL_len]; omega
              rw [hlk] at hown
              obtain ⟨a3, c3, rfl, _⟩ := own_shape2 hown
              have HOWN := Lib.hid hown
              obtain ⟨B2, HB2⟩ : ∃ b, Hid (b = wr.heap.size) := ⟨_, Lib.hid rfl⟩
              obtain ⟨w2, HW2⟩ : ∃ w2, Hid (w2 = wr.alloc (.cells #[.int .i64 (na : Nat), .int .i64 (nb' : Nat), .int .i64 (nc : Nat), .int .i64 (nd : Nat), .bool xp] 42)) := ⟨_, Lib.hid rfl⟩
              have HJ2 : Hid (RnJ w w2 bv nb ob nn t L ((Kn.renL X (fun a => a) t).take k) (.slice a3 k c3)) := Lib.hid (by rw [HW2.out]; exact HJ.out.nw ((Fr.refl _ wr).alloc _))
              have hb2 : w2.heap[B2]? = some (.cells #[.int .i64 (na : Nat), .int .i64 (nb' : Nat), .int .i64 (nc : Nat), .int .i64 (nd : Nat), .bool xp] 42 (0, 0)) := by rw [HW2.out, HB2.out]; exact heap_alloc_new _ _
              obtain ⟨va, HVA⟩ : ∃ v, Hid (v = t na) := ⟨_, Lib.hid rfl⟩
              obtain ⟨vb, HVB⟩ : ∃ v, Hid (v = t nb') := ⟨_, Lib.hid rfl⟩
              obtain ⟨vc, HVC⟩ : ∃ v, Hid (v = t nc) := ⟨_, Lib.hid rfl⟩
              obtain ⟨vd, HVD⟩ : ∃ v, Hid (v = t nd) := ⟨_, Lib.hid rfl⟩
              have ja0 : (0 : Int) ≤ (na : Int) := by omega
              have ja1 : (na : Int) < (nn : Int) + 1 := by omega
              have jb0 : (0 : Int) ≤ (nb' : Int) := by omega
              have jb1 : (nb' : Int) < (nn : Int) + 1 := by omega
              have jc0 : (0 : Int) ≤ (nc : Int) := by omega
              have jc1 : (nc : Int) < (nn : Int) + 1 := by omega
              have jd0 : (0 : Int) ≤ (nd : Int) := by omega
              have jd1 : (nd : Int) < (nn : Int) + 1 := by omega
              have HSB : Hid (¬ (Value.slice a3 k c3).ownBlock = some B2) := Lib.hid (fun e => by
                obtain ⟨u, hu, _⟩ := own_cells hown _ e
                have := (Array.getElem?_eq_some_iff.1 hu).1
                have := HB2.out
                omega)
              have HEQ : Hid ((Kn.renL X (fun a => a) t).take (k + 1) = (Kn.renL X (fun a => a) t).take k ++ [⟨(va : Nat), (vb : Nat), (vc : Nat), (vd : Nat), xp⟩]) := Lib.hid (by
                rw [List.take_succ_eq_append_getElem (by rw [Kn.renL_len]; exact hkX)]
                congr 2
                have e1 : (Kn.renL X (fun a => a) t)[k]'(by rw [Kn.renL_len]; exact hkX) = Kn.cr (Kn.renL X (fun a => a) t) k := by unfold Kn.cr; rw [List.getD_eq_getElem?_getD, List.getElem?_eq_getElem (by rw [Kn.renL_len]; exact hkX)]; rfl
                rw [e1, Kn.renL_cr hkX]
                obtain ⟨f1, f2, f3, f4⟩ := HE.out
                unfold Kn.Cr.ren
                rw [f1, f2, f3, f4, HVA.out, HVB.out, HVC.out, HVD.out, HXP.out]
                rfl)
              have HR0 : Hid (RnK w w2.drew bv nb ob nn t L ((Kn.renL X (fun a => a) t).take k) (.slice a3 k c3) B2 #[.int .i64 (na : Nat), .int .i64 (nb' : Nat), .int .i64 (nc : Nat), .int .i64 (nd : Nat), .bool xp]) := Lib.hid ⟨HJ2.out.nw (Fr.refl _ w2).drew, hb2⟩
              have HNI2 : Hid (∀ wz, (RnI w wz bv nb (nn + 1) t ∧ wz.heap[B2]? = some (.cells #[.int .i64 (na : Nat), .int .i64 (nb' : Nat), .int .i64 (nc : Nat), .int .i64 (nd : Nat), .bool xp] 42 (0, 0))) →
                  wz.cell? ⟨B2, 0, none⟩ = some (.int .i64 (na : Nat)) ∧ wz.cell? ⟨B2, 1, none⟩ = some (.int .i64 (nb' : Nat)) ∧ wz.cell? ⟨B2, 2, none⟩ = some (.int .i64 (nc : Nat)) ∧ wz.cell? ⟨B2, 3, none⟩ = some (.int .i64 (nd : Nat)) ∧ wz.cell? ⟨B2, 4, none⟩ = some (.bool xp) ∧
                  wz.cell? ⟨nb, na, none⟩ = some (.int .i64 (va : Nat)) ∧ wz.cell? ⟨nb, nb', none⟩ = some (.int .i64 (vb : Nat)) ∧ wz.cell? ⟨nb, nc, none⟩ = some (.int .i64 (vc : Nat)) ∧ wz.cell? ⟨nb, nd, none⟩ = some (.int .i64 (vd : Nat))) := Lib.hid (fun wz h =>
                ⟨cell_of_row _ _ 0 _ 42 (0, 0) h.2, cell_of_row _ _ 1 _ 42 (0, 0) h.2, cell_of_row _ _ 2 _ 42 (0, 0) h.2, cell_of_row _ _ 3 _ 42 (0, 0) h.2, cell_of_row _ _ 4 _ 42 (0, 0) h.2, by rw [HVA.out]; exact h.1.row.cell ha, by rw [HVB.out]; exact h.1.row.cell hb, by rw [HVC.out]; exact h.1.row.cell hc, by rw [HVD.out]; exact h.1.row.cell hd⟩)
              have HNI : Hid (∀ {Y sc} wz, RnK w wz bv nb ob nn t L Y sc B2 #[.int .i64 (na : Nat), .int .i64 (nb' : Nat), .int .i64 (nc : Nat), .int .i64 (nd : Nat), .bool xp] →
                  wz.cell? ⟨B2, 0, none⟩ = some (.int .i64 (na : Nat)) ∧ wz.cell? ⟨B2, 1, none⟩ = some (.int .i64 (nb' : Nat)) ∧ wz.cell? ⟨B2, 2, none⟩ = some (.int .i64 (nc : Nat)) ∧ wz.cell? ⟨B2, 3, none⟩ = some (.int .i64 (nd : Nat)) ∧ wz.cell? ⟨B2, 4, none⟩ = some (.bool xp) ∧
                  wz.cell? ⟨nb, na, none⟩ = some (.int .i64 (va : Nat)) ∧ wz.cell? ⟨nb, nb', none⟩ = some (.int .i64 (vb : Nat)) ∧ wz.cell? ⟨nb, nc, none⟩ = some (.int .i64 (vc : Nat)) ∧ wz.cell? ⟨nb, nd, none⟩ = some (.int .i64 (vd : Nat))) := Lib.hid (fun wz h => HNI2.out wz ⟨h.J.i, h.bc⟩)
              have HOV : Hid (w2.drew.ownsRow w.heap.size 42 5 (.slice a3 k c3) k (crCells ((Kn.renL X (fun a => a) t).take k))) := Lib.hid (by have := HJ2.out.own; rw [hlk] at this; exact this)
              have hh0 : w2.drew.cell? ⟨B2, 0, none⟩ = some (.int .i64 (na : Nat)) ∧ w2.drew.cell? ⟨B2, 1, none⟩ = some (.int .i64 (nb' : Nat)) ∧ w2.drew.cell? ⟨B2, 2, none⟩ = some (.int .i64 (nc : Nat)) ∧ w2.drew.cell? ⟨B2, 3, none⟩ = some (.int .i64 (nd : Nat)) ∧ w2.drew.cell? ⟨B2, 4, none⟩ = some (.bool xp) ∧
                  w2.drew.cell? ⟨nb, na, none⟩ = some (.int .i64 (va : Nat)) ∧ w2.drew.cell? ⟨nb, nb', none⟩ = some (.int .i64 (vb : Nat)) ∧ w2.drew.cell? ⟨nb, nc, none⟩ = some (.int .i64 (vc : Nat)) ∧ w2.drew.cell? ⟨nb, nd, none⟩ = some (.int .i64 (vd : Nat)) := HNI.out _ HR0.out
              clear hown hb2
              go_wp2
              rw [← HW2.out, ← HB2.out]
              refine wp_region_held_drew (S := fun wz => wz.cell? ⟨B2, 0, none⟩ = some (.int .i64 (na : Nat)) ∧ wz.cell? ⟨B2, 1, none⟩ = some (.int .i64 (nb' : Nat)) ∧ wz.cell? ⟨B2, 2, none⟩ = some (.int .i64 (nc : Nat)) ∧ wz.cell? ⟨B2, 3, none⟩ = some (.int .i64 (nd : Nat)) ∧ wz.cell? ⟨B2, 4, none⟩ = some (.bool xp) ∧
                  wz.cell? ⟨nb, na, none⟩ = some (.int .i64 (va : Nat)) ∧ wz.cell? ⟨nb, nb', none⟩ = some (.int .i64 (vb : Nat)) ∧ wz.cell? ⟨nb, nc, none⟩ = some (.int .i64 (vc : Nat)) ∧ wz.cell? ⟨nb, nd, none⟩ = some (.int .i64 (vd : Nat))) (by kernel_rfl) hh0 (fun hHeld => ?_)
              clear hh0
              generalize w2.drew = r0 at hHeld HR0 HOV ⊢
              -- BEGIN17
              refine' wpAnyH_take (i := 0) (v := _) rfl (by kernel_rfl) (by kernel_rfl) (by kernel_rfl) (fun _ _ _ h => h) (Or.inl ⟨by rfl, ?hy⟩) (by assumption) ?rest
              case hy => (intro w' hSw; (try dsimp only at hSw); go_simp <;> with_reducible rfl)
              case rest =>
              simp only [Act.put, List.getElem_toArray, List.getElem_cons_zero, List.getElem_cons_succ, List.setIfInBounds_toArray, List.set_cons_zero, List.set_cons_succ]
              refine' wpAnyH_take (i := 2) (v := _) rfl (by kernel_rfl) (by kernel_rfl) (by kernel_rfl) (fun _ _ _ h => h) (Or.inl ⟨by rfl, ?hy⟩) (by assumption) ?rest
              case hy => (intro w' hSw; (try dsimp only at hSw); go_simp <;> with_reducible rfl)
              case rest =>
              simp only [Act.put, List.getElem_toArray, List.getElem_cons_zero, List.getElem_cons_succ, List.setIfInBounds_toArray, List.set_cons_zero, List.set_cons_succ]
              refine' wpAnyH_take (i := 3) (v := _) rfl (by kernel_rfl) (by kernel_rfl) (by kernel_rfl) (fun _ _ _ h => h) (Or.inl ⟨by rfl, ?hy⟩) (by assumption) ?rest
              case hy => (intro w' hSw; (try dsimp only at hSw); go_simp <;> with_reducible rfl)
              case rest =>
              simp only [Act.put, List.getElem_toArray, List.getElem_cons_zero, List.getElem_cons_succ, List.setIfInBounds_toArray, List.set_cons_zero, List.set_cons_succ]
              refine' wpAnyH_take (i := 4) (v := _) rfl (by kernel_rfl) (by kernel_rfl) (by kernel_rfl) (fun _ _ _ h => h) (Or.inl ⟨by rfl, ?hy⟩) (by assumption) ?rest
              case hy => (intro w' hSw; (try dsimp only at hSw); go_simp <;> with_reducible rfl)
              case rest =>
              simp only [Act.put, List.getElem_toArray, List.getElem_cons_zero, List.getElem_cons_succ, List.setIfInBounds_toArray, List.set_cons_zero, List.set_cons_succ]
              refine' wpAnyH_take (i := 5) (v := _) rfl (by kernel_rfl) (by kernel_rfl) (by kernel_rfl) (fun _ _ _ h => h) (Or.inl ⟨by rfl, ?hy⟩) (by assumption) ?rest
              case hy => (intro w' hSw; (try dsimp only at hSw); go_simp <;> with_reducible rfl)
              case rest =>
              simp only [Act.put, List.getElem_toArray, List.getElem_cons_zero, List.getElem_cons_succ, List.setIfInBounds_toArray, List.set_cons_zero, List.set_cons_succ]
              refine' wpAnyH_take (i := 6) (v := _) rfl (by kernel_rfl) (by kernel_rfl) (by kernel_rfl) (fun _ _ _ h => h) (Or.inl ⟨by rfl, ?hy⟩) (by assumption) ?rest
              case hy => (intro w' hSw; (try dsimp only at hSw); go_simp <;> with_reducible rfl)
              case rest =>
              simp only [Act.put, List.getElem_toArray, List.getElem_cons_zero, List.getElem_cons_succ, List.setIfInBounds_toArray, List.set_cons_zero, List.set_cons_succ]
              refine' wpAnyH_take (i := 7) (v := _) rfl (by kernel_rfl) (by kernel_rfl) (by kernel_rfl) (fun _ _ _ h => h) (Or.inl ⟨by rfl, ?hy⟩) (by assumption) ?rest
              case hy => (intro w' hSw; (try dsimp only at hSw); go_simp <;> with_reducible rfl)
              case rest =>
              simp only [Act.put, List.getElem_toArray, List.getElem_cons_zero, List.getElem_cons_succ, List.setIfInBounds_toArray, List.set_cons_zero, List.set_cons_succ]
              refine' wpAnyH_take (i := 8) (v := _) rfl (by kernel_rfl) (by kernel_rfl) (by kernel_rfl) (fun _ _ _ h => h) (Or.inl ⟨by rfl, ?hy⟩) (by assumption) ?rest
              case hy => (intro w' hSw; (try dsimp only at hSw); go_simp <;> with_reducible rfl)
              case rest =>
              simp only [Act.put, List.getElem_toArray, List.getElem_cons_zero, List.getElem_cons_succ, List.setIfInBounds_toArray, List.set_cons_zero, List.set_cons_succ]
              refine' wpAnyH_take (i := 9) (v := _) rfl (by kernel_rfl) (by kernel_rfl) (by kernel_rfl) (fun _ _ _ h => h) (Or.inl ⟨by rfl, ?hy⟩) (by assumption) ?rest
              case hy => (intro w' hSw; (try dsimp only at hSw); go_simp <;> with_reducible rfl)
              case rest =>
              simp only [Act.put, List.getElem_toArray, List.getElem_cons_zero, List.getElem_cons_succ, List.setIfInBounds_toArray, List.set_cons_zero, List.set_cons_succ]
              refine' wpAnyH_take (i := 10) (v := _) rfl (by kernel_rfl) (by kernel_rfl) (by kernel_rfl) (fun _ _ _ h => h) (Or.inl ⟨by rfl, ?hy⟩) (by assumption) ?rest
              case hy => (intro w' hSw; (try dsimp only at hSw); go_simp <;> with_reducible rfl)
              case rest =>
              simp only [Act.put, List.getElem_toArray, List.getElem_cons_zero, List.getElem_cons_succ, List.setIfInBounds_toArray, List.set_cons_zero, List.set_cons_succ]
              refine' wpAnyH_take (i := 11) (v := _) rfl (by kernel_rfl) (by kernel_rfl) (by kernel_rfl) (fun _ _ _ h => h) (Or.inl ⟨by rfl, ?hy⟩) (by assumption) ?rest
              case hy => (intro w' hSw; (try dsimp only at hSw); go_simp <;> with_reducible rfl)
              case rest =>
              simp only [Act.put, List.getElem_toArray, List.getElem_cons_zero, List.getElem_cons_succ, List.setIfInBounds_toArray, List.set_cons_zero, List.set_cons_succ]
              refine' wpAnyH_take (i := 12) (v := _) rfl (by kernel_rfl) (by kernel_rfl) (by kernel_rfl) (fun _ _ _ h => h) (Or.inl ⟨by rfl, ?hy⟩) (by assumption) ?rest
              case hy => (intro w' hSw; (try dsimp only at hSw); go_simp <;> with_reducible rfl)
              case rest =>
              simp only [Act.put, List.getElem_toArray, List.getElem_cons_zero, List.getElem_cons_succ, List.setIfInBounds_toArray, List.set_cons_zero, List.set_cons_succ]
              refine' wpAnyH_take (i := 13) (v := _) rfl (by kernel_rfl) (by kernel_rfl) (by kernel_rfl) (fun _ _ _ h => h) (Or.inl ⟨by rfl, ?hy⟩) (by assumption) ?rest
              case hy => (intro w' hSw; (try dsimp only at hSw); go_simp <;> with_reducible rfl)
              case rest =>
              simp only [Act.put, List.getElem_toArray, List.getElem_cons_zero, List.getElem_cons_succ, List.setIfInBounds_toArray, List.set_cons_zero, List.set_cons_succ]
              refine' wpAnyH_take (i := 14) (v := _) rfl (by kernel_rfl) (by kernel_rfl) (by kernel_rfl) (fun _ _ _ h => h) (Or.inl ⟨by rfl, ?hy⟩) (by assumption) ?rest
              case hy => (intro w' hSw; (try dsimp only at hSw); go_simp <;> with_reducible rfl)
              case rest =>
              simp only [Act.put, List.getElem_toArray, List.getElem_cons_zero, List.getElem_cons_succ, List.setIfInBounds_toArray, List.set_cons_zero, List.set_cons_succ]
              refine' wpAnyH_take (i := 15) (v := _) rfl (by kernel_rfl) (by kernel_rfl) (by kernel_rfl) (fun _ _ _ h => h) (Or.inl ⟨by rfl, ?hy⟩) (by assumption) ?rest
              case hy => (intro w' hSw; (try dsimp only at hSw); go_simp <;> with_reducible rfl)
              case rest =>
              simp only [Act.put, List.getElem_toArray, List.getElem_cons_zero, List.getElem_cons_succ, List.setIfInBounds_toArray, List.set_cons_zero, List.set_cons_succ]
              refine' wpAnyH_take (i := 16) (v := _) rfl (by kernel_rfl) (by kernel_rfl) (by kernel_rfl) (fun _ _ _ h => h) (Or.inl ⟨by rfl, ?hy⟩) (by assumption) ?rest
              case hy => (intro w' hSw; (try dsimp only at hSw); go_simp <;> with_reducible rfl)
              case rest =>
              simp only [Act.put, List.getElem_toArray, List.getElem_cons_zero, List.getElem_cons_succ, List.setIfInBounds_toArray, List.set_cons_zero, List.set_cons_succ]
              refine' wpAnyH_take (i := 17) (v := _) rfl (by kernel_rfl) (by kernel_rfl) (by kernel_rfl) (fun _ _ _ h => h) (Or.inl ⟨by rfl, ?hy⟩) (by assumption) ?rest
              case hy => (intro w' hSw; (try dsimp only at hSw); go_simp <;> with_reducible rfl)
              case rest =>
              simp only [Act.put, List.getElem_toArray, List.getElem_cons_zero, List.getElem_cons_succ, List.setIfInBounds_toArray, List.set_cons_zero, List.set_cons_succ]
              refine' wpAnyH_take (i := 18) (v := _) rfl (by kernel_rfl) (by kernel_rfl) (by kernel_rfl) (fun _ _ _ h => h) (Or.inl ⟨by rfl, ?hy⟩) (by assumption) ?rest
              case hy => (intro w' hSw; (try dsimp only at hSw); go_simp <;> with_reducible rfl)
              case rest =>
              simp only [Act.put, List.getElem_toArray, List.getElem_cons_zero, List.getElem_cons_succ, List.setIfInBounds_toArray, List.set_cons_zero, List.set_cons_succ]
              refine' wpAnyH_take (i := 19) (v := _) rfl (by kernel_rfl) (by kernel_rfl) (by kernel_rfl) (fun _ _ _ h => h) (Or.inl ⟨by rfl, ?hy⟩) (by assumption) ?rest
              case hy => (intro w' hSw; (try dsimp only at hSw); go_simp <;> with_reducible rfl)
              case rest =>
              simp only [Act.put, List.getElem_toArray, List.getElem_cons_zero, List.getElem_cons_succ, List.setIfInBounds_toArray, List.set_cons_zero, List.set_cons_succ]
              refine' wpAnyH_take (i := 20) (v := _) rfl (by kernel_rfl) (by kernel_rfl) (by kernel_rfl) (fun _ _ _ h => h) (Or.inl ⟨by rfl, ?hy⟩) (by assumption) ?rest
              case hy => (intro w' hSw; (try dsimp only at hSw); go_simp <;> with_reducible rfl)
              case rest =>
              simp only [Act.put, List.getElem_toArray, List.getElem_cons_zero, List.getElem_cons_succ, List.setIfInBounds_toArray, List.set_cons_zero, List.set_cons_succ]
              refine' wpAnyH_take (i := 21) (v := _) rfl (by kernel_rfl) (by kernel_rfl) (by kernel_rfl) (fun _ _ _ h => h) (Or.inl ⟨by rfl, ?hy⟩) (by assumption) ?rest
              case hy => (intro w' hSw; (try dsimp only at hSw); go_simp <;> with_reducible rfl)
              case rest =>
              simp only [Act.put, List.getElem_toArray, List.getElem_cons_zero, List.getElem_cons_succ, List.setIfInBounds_toArray, List.set_cons_zero, List.set_cons_succ]
              refine' wpAnyH_take (i := 22) (v := _) rfl (by kernel_rfl) (by kernel_rfl) (by kernel_rfl) (fun _ _ _ h => h) (Or.inl ⟨by rfl, ?hy⟩) (by assumption) ?rest
              case hy => (intro w' hSw; (try dsimp only at hSw); go_simp <;> with_reducible rfl)
              case rest =>
              simp only [Act.put, List.getElem_toArray, List.getElem_cons_zero, List.getElem_cons_succ, List.setIfInBounds_toArray, List.set_cons_zero, List.set_cons_succ]
              refine' wpAnyH_take (i := 23) (v := _) rfl (by kernel_rfl) (by kernel_rfl) (by kernel_rfl) (fun _ _ _ h => h) (Or.inl ⟨by rfl, ?hy⟩) (by assumption) ?rest
              case hy => (intro w' hSw; (try dsimp only at hSw); go_simp <;> with_reducible rfl)
              case rest =>
              simp only [Act.put, List.getElem_toArray, List.getElem_cons_zero, List.getElem_cons_succ, List.setIfInBounds_toArray, List.set_cons_zero, List.set_cons_succ]
              refine' wpAnyH_take (i := 24) (v := _) rfl (by kernel_rfl) (by kernel_rfl) (by kernel_rfl) (fun _ _ _ h => h) (Or.inl ⟨by rfl, ?hy⟩) (by assumption) ?rest
              case hy => (intro w' hSw; (try dsimp only at hSw); go_simp <;> with_reducible rfl)
              case rest =>
              simp only [Act.put, List.getElem_toArray, List.getElem_cons_zero, List.getElem_cons_succ, List.setIfInBounds_toArray, List.set_cons_zero, List.set_cons_succ]
              refine wpAnyH_ready (rs := [1, 25]) (by kernel_rfl) (by simp) ?_
              refine AllReadyH.cons rfl (fun K hK => ?_) (AllReadyH.cons rfl (fun K hK => ?_) AllReadyH.nil)
              · skip
                obtain ⟨d0, _, _, _⟩ := box2_c HR0.out.J.bo
                (try simp only [List.getElem_toArray, List.getElem_cons_zero, List.getElem_cons_succ])
                go_simp
                refine hK.out _ _ (HNI.out _ HR0.out) (fun hHeld => ?_)
                clear hK K
                (try simp only [Act.put, List.getElem_toArray, List.getElem_cons_zero, List.getElem_cons_succ, List.setIfInBounds_toArray, List.set_cons_zero, List.set_cons_succ])
                refine wpAnyH_ready (rs := [25]) (by kernel_rfl) (by simp) ?_
                refine AllReadyH.cons rfl (fun K hK => ?_) AllReadyH.nil
                (try simp only [List.getElem_toArray, List.getElem_cons_zero, List.getElem_cons_succ])
                go_simp
                have HR5 := Lib.hid (HR0.out.nw ((Fr.refl _ r0).alloc (.cells #[.int .i64 (va : Nat), .int .i64 (vb : Nat), .int .i64 (vc : Nat), .int .i64 (vd : Nat), .bool xp] 42)))
                refine hK.out _ _ (HNI.out _ HR5.out) (fun hHeld => ?_)
                clear hK K
                (try simp only [Act.put, List.getElem_toArray, List.getElem_cons_zero, List.getElem_cons_succ, List.setIfInBounds_toArray, List.set_cons_zero, List.set_cons_succ])
                refine wpAnyH_ready (rs := [26]) (by kernel_rfl) (by simp) ?_
                refine AllReadyH.cons rfl (fun K hK => ?_) AllReadyH.nil
                (try simp only [List.getElem_toArray, List.getElem_cons_zero, List.getElem_cons_succ])
                rw [if_pos (by rfl)]
                refine wp_append_lies _ _ _ 22 rfl w.heap.size 42 i0 (.agg #[.int .i64 0, .int .i64 0, .int .i64 0, .int .i64 0, .bool false]) 5 40 Try.underlying22 hi0 hz0 hz1 hz2 rfl (by decide) _ k (crCells ((Kn.renL X (fun a => a) t).take k)) rfl (World.ownsRow.alloc HOV.out _) ⟨r0.heap.size, 0, none⟩ 1 1 [.int .i64 (va : Nat), .int .i64 (vb : Nat), .int .i64 (vc : Nat), .int .i64 (vd : Nat), .bool xp] rfl rfl (five_cells rfl) (one_five _ _ _ _ _) (by omega) (by unfold maxLen; omega) (by omega) (by have := HR0.out.J.i.new.size; simp only [World.size_alloc]; omega) _ rfl ?_
                intro g cap w9 hown hgrow _ _
                obtain ⟨q1, q2⟩ := HR0.out.app (x := ⟨(va : Nat), (vb : Nat), (vc : Nat), (vd : Nat), xp⟩) hlk.symm hown hgrow HSB.out
                have HQ2 := Lib.hid q1
                have HQ3 := Lib.hid q2
                obtain ⟨f0, _, f2, _⟩ := box2_c (HR0.out.J.store hgrow)
                clear hown hgrow q1 q2
                refine hK.out _ _ (HNI2.out _ HQ2.out) (fun hHeld => ?_)
                clear hK K
                (try simp only [Act.put, List.getElem_toArray, List.getElem_cons_zero, List.getElem_cons_succ, List.setIfInBounds_toArray, List.set_cons_zero, List.set_cons_succ])
                refine' wpAnyH_take (i := 27) (v := _) rfl (by kernel_rfl) (by kernel_rfl) (by kernel_rfl) (fun _ _ _ h => h) (Or.inl ⟨by rfl, ?hy⟩) (by assumption) ?rest
                case hy => (intro w' hSw; (try dsimp only at hSw); go_simp <;> with_reducible rfl)
                case rest =>
                simp only [Act.put, List.getElem_toArray, List.getElem_cons_zero, List.getElem_cons_succ, List.setIfInBounds_toArray, List.set_cons_zero, List.set_cons_succ]
                refine wpAnyH_ready (rs := [28]) (by kernel_rfl) (by simp) ?_
                refine AllReadyH.cons rfl (fun K hK => ?_) AllReadyH.nil
                (try simp only [List.getElem_toArray, List.getElem_cons_zero, List.getElem_cons_succ])
                go_simp
                refine hK.out _ _ (HNI.out _ HQ3.out) (fun hHeld => ?_)
                clear hK K
                (try simp only [Act.put, List.getElem_toArray, List.getElem_cons_zero, List.getElem_cons_succ, List.setIfInBounds_toArray, List.set_cons_zero, List.set_cons_succ])
                refine wpAnyH_done (by kernel_rfl) ?_ _
                have HP7 := Lib.hid HQ3.out.J
                go_wp2
                go_roundw
                case rel => exact ⟨k + 1, _, by omega, by go_num, Lib.hid (by rw [HEQ.out]; exact HP7.out)⟩
                case measure => simp [intOf]; omega
              · skip
                (try simp only [List.getElem_toArray, List.getElem_cons_zero, List.getElem_cons_succ])
                go_simp
                have HR5 := Lib.hid (HR0.out.nw ((Fr.refl _ r0).alloc (.cells #[.int .i64 (va : Nat), .int .i64 (vb : Nat), .int .i64 (vc : Nat), .int .i64 (vd : Nat), .bool xp] 42)))
                refine hK.out _ _ (HNI.out _ HR5.out) (fun hHeld => ?_)
                clear hK K
                (try simp only [Act.put, List.getElem_toArray, List.getElem_cons_zero, List.getElem_cons_succ, List.setIfInBounds_toArray, List.set_cons_zero, List.set_cons_succ])
                refine wpAnyH_ready (rs := [1]) (by kernel_rfl) (by simp) ?_
                refine AllReadyH.cons rfl (fun K hK => ?_) AllReadyH.nil
                obtain ⟨d0, _, _, _⟩ := box2_c HR5.out.J.bo
                (try simp only [List.getElem_toArray, List.getElem_cons_zero, List.getElem_cons_succ])
                go_simp
                refine hK.out _ _ (HNI.out _ HR5.out) (fun hHeld => ?_)
                clear hK K
                (try simp only [Act.put, List.getElem_toArray, List.getElem_cons_zero, List.getElem_cons_succ, List.setIfInBounds_toArray, List.set_cons_zero, List.set_cons_succ])
                refine wpAnyH_ready (rs := [26]) (by kernel_rfl) (by simp) ?_
                refine AllReadyH.cons rfl (fun K hK => ?_) AllReadyH.nil
                (try simp only [List.getElem_toArray, List.getElem_cons_zero, List.getElem_cons_succ])
                rw [if_pos (by rfl)]
                refine wp_append_lies _ _ _ 22 rfl w.heap.size 42 i0 (.agg #[.int .i64 0, .int .i64 0, .int .i64 0, .int .i64 0, .bool false]) 5 40 Try.underlying22 hi0 hz0 hz1 hz2 rfl (by decide) _ k (crCells ((Kn.renL X (fun a => a) t).take k)) rfl (World.ownsRow.alloc HOV.out _) ⟨r0.heap.size, 0, none⟩ 1 1 [.int .i64 (va : Nat), .int .i64 (vb : Nat), .int .i64 (vc : Nat), .int .i64 (vd : Nat), .bool xp] rfl rfl (five_cells rfl) (one_five _ _ _ _ _) (by omega) (by unfold maxLen; omega) (by omega) (by have := HR0.out.J.i.new.size; simp only [World.size_alloc]; omega) _ rfl ?_
                intro g cap w9 hown hgrow _ _
                obtain ⟨q1, q2⟩ := HR0.out.app (x := ⟨(va : Nat), (vb : Nat), (vc : Nat), (vd : Nat), xp⟩) hlk.symm hown hgrow HSB.out
                have HQ2 := Lib.hid q1
                have HQ3 := Lib.hid q2
                obtain ⟨f0, _, f2, _⟩ := box2_c (HR0.out.J.store hgrow)
                clear hown hgrow q1 q2
                refine hK.out _ _ (HNI2.out _ HQ2.out) (fun hHeld => ?_)
                clear hK K
                (try simp only [Act.put, List.getElem_toArray, List.getElem_cons_zero, List.getElem_cons_succ, List.setIfInBounds_toArray, List.set_cons_zero, List.set_cons_succ])
                refine' wpAnyH_take (i := 27) (v := _) rfl (by kernel_rfl) (by kernel_rfl) (by kernel_rfl) (fun _ _ _ h => h) (Or.inl ⟨by rfl, ?hy⟩) (by assumption) ?rest
                case hy => (intro w' hSw; (try dsimp only at hSw); go_simp <;> with_reducible rfl)
                case rest =>
                simp only [Act.put, List.getElem_toArray, List.getElem_cons_zero, List.getElem_cons_succ, List.setIfInBounds_toArray, List.set_cons_zero, List.set_cons_succ]
                refine wpAnyH_ready (rs := [28]) (by kernel_rfl) (by simp) ?_
                refine AllReadyH.cons rfl (fun K hK => ?_) AllReadyH.nil
                (try simp only [List.getElem_toArray, List.getElem_cons_zero, List.getElem_cons_succ])
                go_simp
                refine hK.out _ _ (HNI.out _ HQ3.out) (fun hHeld => ?_)
                clear hK K
                (try simp only [Act.put, List.getElem_toArray, List.getElem_cons_zero, List.getElem_cons_succ, List.setIfInBounds_toArray, List.set_cons_zero, List.set_cons_succ])
                refine wpAnyH_done (by kernel_rfl) ?_ _
                have HP7 := Lib.hid HQ3.out.J
                go_wp2
                go_roundw
                case rel => exact ⟨k + 1, _, by omega, by go_num, Lib.hid (by rw [HEQ.out]; exact HP7.out)⟩
                case measure => simp [intOf]; omega
              -- END17
            · have hkn' : k = n := by omega
              have HJ0 : Hid (RnJ w wr bv nb ob nn t L (Kn.renL X (fun a => a) t) sc) := Lib.hid (by have := HJ.out; rwa [List.take_of_length_le (by rw [Kn.renL_len]; have := HN.out; omega)] at this)
              have hkd : decide (k < n) = false := by simp; omega
              have hki : ¬ (k : Int) < (n : Int) := by omega
              obtain ⟨g, cg, rfl⟩ : ∃ g cg, sc = .slice (some ⟨g, 0, none⟩) n cg := by
                have := HJ0.out.own
                rw [Kn.renL_len, ← HN.out] at this
                rcases this.2 with ⟨_, h0'⟩ | ⟨g, cap, cur, e, _⟩
                · omega
                · exact ⟨g, cap, e⟩
              clear HJ hkn hkn' hk
              have HP0 := Lib.hid (Kn.Pos.id X.length)
              have HTT := Lib.hid HT.out
              go_wp2
              clear p0 p1
              obtain ⟨wq, rfl⟩ : ∃ wq, wq = wr := ⟨_, rfl⟩
              go_loopw [16] (fun i wr => ∃ (r : Nat) (f : Nat → Nat), r ≤ k2 ∧ i = .int .i64 r ∧ Hid (Kn.Pos X.length f) ∧ Hid (RnJ w wr bv nb ob nn t L (Kn.renL X f t) (.slice (some ⟨g, 0, none⟩) n cg))) (fun i _ => k2 - (intOf i).toNat)
              case atStart => exact ⟨0, _, by omega, rfl, HP0, HJ0⟩
              case round =>
                obtain ⟨r, f, hr, rfl, HP, HJ⟩ := hrel
                obtain ⟨p0, p1, _, _⟩ := box2_c HJ.out.bo
                by_cases hrk : r < k2 ∧ 1 < n
                · obtain ⟨hrk, hn1⟩ := hrk
                  obtain ⟨zb, zo, z, rfl, hz, hz1, hz2⟩ := (New.raw HJ.out.i.new HZ2.out).get (i := r) (by have := HK2.out; omega)
                  obtain ⟨x, hx, hcall⟩ := picked_nat z n hz1 hz2 (by omega) (by omega)
                  obtain ⟨y, HYQ⟩ : ∃ y, Hid (y = r % n) := ⟨_, Lib.hid rfl⟩
                  have hy : y < n := by rw [HYQ.out]; exact Nat.mod_lt _ (by omega)
                  have e2 : (r : Int) % (n : Int) = (y : Int) := by rw [HYQ.out]; exact (Int.natCast_emod r n).symm
                  have hn1' : (1 : Int) < (n : Int) := by omega
                  have hx0 : (0 : Int) ≤ (x : Int) := by omega
                  have hx1 : (x : Int) < (n : Int) := by omega
                  have hy0 : (0 : Int) ≤ (y : Int) := by omega
                  have hy1 : (y : Int) < (n : Int) := by omega
                  have i1 : (0 : Int) ≤ (r : Int) := by omega
                  have i2 : (r : Int) < (k2 : Int) := by omega
                  have HC := Lib.hid hcall
                  clear hcall
                  go_wp2
                  go_quiet (first | (go_at_call 20; refine Calls.quiet_of_same (HC.out _)))
                  clear p0 p1
                  obtain ⟨w2, HW2⟩ : ∃ w2, Hid (w2 = wr.drewN nq) := ⟨_, Lib.hid rfl⟩
                  rw [← HW2.out]
                  have HJ2 : Hid (RnJ w w2 bv nb ob nn t L (Kn.renL X f t) (.slice (some ⟨g, 0, none⟩) n cg)) := Lib.hid (by rw [HW2.out]; exact HJ.out.nw ((Fr.refl _ wr).drewN _))
                  obtain ⟨xa, xb', xc, xd, xp, HXC⟩ := Kn.cr_parts' (Kn.renL X f t) x
                  obtain ⟨ya, yb, yc, yd, yp, HYC⟩ := Kn.cr_parts' (Kn.renL X f t) y
                  have hxX : x < X.length := by have := HN.out; omega
                  have hyX : y < X.length := by have := HN.out; omega
                  have hown := HJ2.out.own
                  rw [Kn.renL_len, ← HN.out] at hown
                  have hcx := own_five hown (by rw [Kn.renL_len]; exact HN.out) (j := x) (by rw [Kn.renL_len]; exact hxX)
                  have hcy := own_five hown (by rw [Kn.renL_len]; exact HN.out) (j := y) (by rw [Kn.renL_len]; exact hyX)
                  rw [HXC.out] at hcx
                  rw [HYC.out] at hcy
                  have hfr := fun j => own_free hown j
                  have h1 := own_set5 hown (j := x) (by rw [Kn.renL_len]; exact hxX) ⟨ya, yb, yc, yd, yp⟩
                  have hcz := own_five h1 (by rw [List.length_set, Kn.renL_len]; exact HN.out) (j := y) (by rw [List.length_set, Kn.renL_len]; exact hyX)
                  have hfz := fun j => own_free h1 j
                  have HS := Lib.hid (HJ2.out.swap HN.out hxX hyX HXC.out HYC.out)
                  obtain ⟨p0, p1, _, _⟩ := box2_c HJ2.out.bo
                  obtain ⟨x1, x2, x3, x4, x5⟩ := hcx
                  obtain ⟨y1, y2, y3, y4, y5⟩ := hcy
                  obtain ⟨t1, t2, t3, t4, t5⟩ := hcz
                  simp only [set5] at t1 t2 t3 t4 t5 hfz
                  have hgo : ¬ ob = g := fun e => blk_not_own HJ2.out.bo hown (by decide) (by rw [e]; rfl)
                  have hgo' : ¬ g = ob := fun e => hgo e.symm
                  have p2 := (fr_set5 w2 g x ya yb yc yd yp).cell p0 hgo
                  simp only [set5] at p2
                  clear hown h1
                  go_wp2
                  go_region
                  go_wp2
                  go_roundw
                  case rel => exact ⟨r + 1, _, by omega, by go_num, Lib.hid (HP.out.swap hxX hyX), Lib.hid (HS.out.nw (Fr.refl _ _).drew)⟩
                  case measure => simp [intOf]; omega
                · have HRES : Hid (wr.heap[w.heap.size + 1]? = some (.cells #[.slice none 0 0, .int .i64 0] 24 (0, 0))) := Lib.hid HJ.out.i.res
                  have hb1 := (box2_set HRES.out (.slice (some ⟨g, 0, none⟩) n cg)).1
                  have hb2 := (box2_set hb1 (.int .i64 L)).2
                  obtain ⟨e0, _, z0, _⟩ := box2_c HRES.out
                  obtain ⟨_, e1, _, z1⟩ := box2_c hb1
                  obtain ⟨m5, m6, _, _⟩ := box2_c hb2
                  have hown := HJ.out.own
                  rw [Kn.renL_len, ← HN.out] at hown
                  have HOWN := Lib.hid hown
                  clear hown hb1 hb2
                  by_cases hrk2 : r < k2
                  · have hn1 : ¬ (1 : Int) < (n : Int) := by omega
                    have i2 : (r : Int) < (k2 : Int) := by omega
                    clear hrk
                    go_wp2
                    exact bodyPost_ret (v := .agg #[.slice (some ⟨g, 0, none⟩) n cg, .int .i64 L]) (by simp [results, Try.results11, go_sem, m5, m6]) rfl (HJ.out.gave (by have := HNN.out; have := HN.out; omega) HP.out HTT.out)
                  · have i2 : ¬ (r : Int) < (k2 : Int) := by omega
                    clear hrk
                    go_wp2
                    exact bodyPost_ret (v := .agg #[.slice (some ⟨g, 0, none⟩) n cg, .int .i64 L]) (by simp [results, Try.results11, go_sem, m5, m6]) rfl (HJ.out.gave (by have := HNN.out; have := HN.out; omega) HP.out HTT.out)
end Go.Proofs.Ytgjmjbgicfkojaa
