/- Words for the law of the mirror image. -/
import Derived.Test.YtlicglicfijelaaS3
import Derived.Test.YtlicglicfijelaaS4m
import Derived.Test.YtlicglicfijelaaM29
import Derived.Test.YtlicglicfijelaaM46
namespace Go.Proofs.Ytlicglicfijelaa
open Go.RowKit
open Kn (E2 L2 cf tt szL exB ofL F2 sumT insT)

def pick (n m : Int) : Int := if n < 0 then -(n + 1).tmod m else n % m
theorem pick_range {n m : Int} (h0 : 1 ≤ m) : 0 ≤ pick n m ∧ pick n m < m := by
  unfold pick
  split
  · rw [← Int.neg_tmod]
    exact ⟨Int.tmod_nonneg _ (by omega), Int.tmod_lt_of_pos _ (by omega)⟩
  · exact ⟨Int.emod_nonneg _ (by omega), Int.emod_lt_of_pos _ (by omega)⟩
set_option maxHeartbeats 400000 in
theorem picked_any (n m : Int) (w : World) (hn : -9223372036854775808 ≤ n) (hn' : n ≤ 9223372036854775807) (h0 : 1 ≤ m) (hm : m ≤ 1000) :
    Calls Try.prog 10 #[.int .i64 n, .int .i64 m] w fun e w' => e = .returned (.int .i64 (pick n m)) ∧ w = w' := by
  by_cases h : n < 0
  · go_enter Try.func10, Try.ntmps10
    go_wp2
    go_ret
    exact ⟨ret_int (by unfold pick; rw [if_pos h]), rfl⟩
  · go_enter Try.func10, Try.ntmps10
    go_wp2
    go_ret
    exact ⟨ret_int (by unfold pick; rw [if_neg (by omega)]), rfl⟩
theorem picked_nat (n : Int) (m : Nat) (hn : -9223372036854775808 ≤ n) (hn' : n ≤ 9223372036854775807) (h0 : 1 ≤ m) (hm : m ≤ 1000) :
    ∃ k : Nat, k < m ∧ ∀ w, Calls Try.prog 10 #[.int .i64 n, .int .i64 (m : Nat)] w fun e w' => e = .returned (.int .i64 (k : Nat)) ∧ w' = w := by
  obtain ⟨h1, h2⟩ := pick_range (n := n) (m := m) (by omega)
  refine ⟨(pick n m).toNat, by omega, fun w => ?_⟩
  rw [show (((pick n m).toNat : Nat) : Int) = pick n m by omega]
  exact (picked_any n m w hn hn' (by omega) (by omega)).mono fun _ _ h => ⟨h.1, h.2.symm⟩
theorem gaveMir_crs {X : List Kn.Cr} {L : Int} {w w' : World} {e : Ending} {n : Nat} (h : GaveMir X L w e w') (hn : n = X.length) : ∃ a c, e = .returned (.tuple #[.agg #[.slice a n c, .int .i64 L], .int .i64 0]) ∧ CrsAt w' a X ∧ New w w' := by
  obtain ⟨sc, rfl, ho, hF⟩ := h
  obtain ⟨a, c, rfl, hx⟩ := CrsAt.of_owns ho
  exact ⟨a, c, by rw [hn], hx, hF⟩
/- a row of terms as terms in memory -/
theorem T2At.of_owns {w : World} {base m c : Nat} {a : Option Addr} {l : L2} (h : w.ownsRow base 33 3 (.slice a m c) m (tcells l)) (hm : m = l.length) : T2At w a l := by
  rcases h.2 with ⟨e, h0⟩ | ⟨g, cap, cur, e, _⟩
  · exact .inl (List.eq_nil_of_length_eq_zero (by omega))
  · injection e with e1 _ _
    subst e1
    refine .inr ⟨g, 0, rfl, fun i hi => ?_⟩
    obtain ⟨y1, y2, y3⟩ := trow_cell h hi
    rw [Nat.zero_add]
    exact ⟨y1, y2, y3⟩
/- what a good diagram is -/
theorem ho_gd {X : List Kn.Cr} {L : Int} (h : hoC X L = 0) : ∃ Ln : Nat, L = (Ln : Int) ∧ Gd X Ln ∧ Kn.mayB X L = true := by
  obtain ⟨h1, h2, h3, h4, h5, h6⟩ := hoC_ok h
  refine ⟨L.toNat, by omega, ⟨h1, h6, h2, ?_, by omega⟩, ?_⟩
  · by_cases c : X.length = 0
    · have := h5 c; omega
    · omega
  · unfold Kn.mayB
    have h7 := (Kn.ok_iff X).2 h1
    have h8 : X.length ≤ 16 := by omega
    have key : (decide (X.length = 0) && decide (L = 0)) = false := by
      by_cases c : X.length = 0
      · rw [decide_eq_false (h5 c), Bool.and_false]
      · rw [decide_eq_false c, Bool.false_and]
    rw [h7, key, decide_eq_true h8, decide_eq_true h3, decide_eq_true h4]; rfl
theorem gd_ho {X : List Kn.Cr} {L : Nat} (g : Gd X L) : hoC X L = 0 ∧ Kn.mayB X L = true := by
  have hm : Kn.mayB X (L : Int) = true := by
    unfold Kn.mayB
    have h1 := g.some
    have h2 := g.len
    have h3 := g.few
    have h7 := (Kn.ok_iff X).2 g.ok
    have h8 : X.length ≤ 16 := by omega
    have h9 : (0 : Int) ≤ (L : Int) := by omega
    have h10 : (L : Int) ≤ 16 := by omega
    have key : (decide (X.length = 0) && decide ((L : Int) = 0)) = false := by
      by_cases c : X.length = 0
      · rw [decide_eq_false (show ¬ (L : Int) = 0 by omega), Bool.and_false]
      · rw [decide_eq_false c, Bool.false_and]
    rw [h7, key, decide_eq_true h8, decide_eq_true h9, decide_eq_true h10]; rfl
  refine ⟨?_, hm⟩
  have h2 := g.len
  unfold hoC opC
  rw [hm, g.pl, if_pos rfl, if_pos rfl, if_pos rfl, if_neg (by omega)]
def GotT (X : List Kn.Cr) (L : Int) (w : World) (e : Ending) (w' : World) : Prop :=
  New w w' ∧ ((hoC X L = 0 ∧ ∃ a m c l, e = .returned (.tuple #[.slice a m c, .int .i64 0]) ∧ m ≤ 1000000 ∧ Hid (m = l.length) ∧ Hid (T2At w' a l) ∧ Hid (HomF X L.toNat l)) ∨ (hoC X L ≠ 0 ∧ e = .returned (.tuple #[.slice none 0 0, .int .i64 (hoC X L)])))
theorem homfly_got (a : Option Addr) (n c : Nat) (X : List Kn.Cr) (L : Int) (w : World) (hx : CrsAt w a X) (hn : n = X.length) (lx : n ≤ 9223372036854775807) (l1 : -9223372036854775808 ≤ L) (l2 : L ≤ 9223372036854775807) :
    Calls Try.prog 4 #[.agg #[.slice a n c, .int .i64 L]] w (GotT X L w) := by
  refine (homfly_any a n c X L w hx hn lx l1 l2).mono ?_
  rintro e w' ⟨hF, ⟨h1, v, l, rfl, h2, h3, h4⟩ | h⟩
  · obtain ⟨a', c', rfl, _⟩ := own_shape2 h2.out
    exact ⟨hF, .inl ⟨h1, a', l.length, c', l, rfl, h4, Lib.hid rfl, Lib.hid (T2At.of_owns h2.out rfl), Lib.hid ⟨h3.out.1, h3.out.2⟩⟩⟩
  · exact ⟨hF, .inr h⟩
theorem tref_gd : Gd Kn.trefoil 0 := ⟨(Kn.ok_iff _).1 Kn.trefoil_ok, Kn.trefoil_planar, by decide, by decide, by decide⟩
def trefT : L2 := sumT [] (ofL 100 Kn.trefoil 0) (0, 0) 1
theorem trefT_len : trefT.length = 3 := by decide +kernel
theorem tref_len {l : L2} (h : HomF Kn.trefoil 0 l) : l.length = 3 := by
  have : trefT = l := (Kn.sumT_F2 _ _ _ .nil).uniq h.form fun a => by
    have e : a - ((0, 0) : E2) = a := Prod.ext (by show a.1 - 0 = a.1; omega) (by show a.2 - 0 = a.2; omega)
    show cf (sumT [] (ofL 100 Kn.trefoil 0) (0, 0) 1) a = _
    rw [Kn.sumT_cf, Int.one_mul, show cf [] a = 0 from rfl, Int.zero_add, e, h.num]
  rw [← this, trefT_len]
theorem same_yes (a a' : Option Addr) (n n' c c' : Nat) (x : L2) (w : World) (hx : T2At w a x) (hy : T2At w a' x) (hn : n = x.length) (hn' : n' = x.length) (lx : n ≤ 1000000) (ly : n' ≤ 1000000) :
    Calls Try.prog 8 #[.slice a n c, .slice a' n' c'] w fun e w' => e = .returned (.bool true) ∧ New w w' := by
  refine (sametwos_any a a' n n' c c' x x w hx hy hn hn' lx ly).mono ?_
  rintro e w' ⟨rfl, h⟩
  exact ⟨by simp, h⟩
/- what the rounds want -/
theorem turn_ready {X : List Kn.Cr} {L : Nat} {q : L2} (h : HomF X L q) (g : Gd X L) {k : Nat} (hk : k < q.length) (c : Int) (hc : c.natAbs = 1) :
    exB 1000000000 [((-(tmG q k).1.1, (tmG q k).1.2), (tmG q k).2)] ∧ szL (turnL (q.take k)) + c.natAbs * szL [((-(tmG q k).1.1, (tmG q k).1.2), (tmG q k).2)] ≤ 4000000000000000000 := by
  have h1 := h.ex g _ (List.getElem_mem hk)
  have h2 := h.sz1 g
  have h3 := szL_take q hk
  have h4 := turnL_sz (q.take k)
  rw [← tm_at hk] at h1
  refine ⟨fun t ht => ?_, ?_⟩
  · rw [List.mem_singleton] at ht
    subst ht
    simp only; omega
  · rw [hc, Kn.szL_cons, show szL [] = 0 from rfl]
    simp only; omega
theorem prod_ready {X Z : List Kn.Cr} {L L' : Nat} {p q : L2} (hp : HomF X L p) (hq : HomF Z L' q) (g : Gd X L) (g' : Gd Z L') (h8 : X.length + Z.length ≤ 8) (hL : L + L' ≤ 16) {k : Nat} (hk : k < q.length) :
    (prodL p (q.take k)).length + p.length ≤ 2900000 ∧ exB 1000000000 p ∧ (tmG q k).1.1.natAbs ≤ 282 ∧ (tmG q k).1.2.natAbs ≤ 282 ∧ szL (prodL p (q.take k)) + (tmG q k).2.natAbs * szL p ≤ 4000000000000000000 := by
  have h1 := hq.ex g' _ (List.getElem_mem hk)
  rw [← tm_at hk] at h1
  have h2 := hp.ex g
  have h3 : exB 282 (q.take k) := fun t ht => hq.ex g' t (List.mem_of_mem_take ht)
  have h4 := F2.few (prodL_F2 p (q.take k)) (prodL_ex h2 h3)
  have h5 := F2.few hp.form h2
  have h6 := prodL_round (p := p) hk (hp.sz2 hq g g' h8 hL)
  exact ⟨by omega, h2.mono (by omega), h1.1, h1.2, by omega⟩
theorem prod_len {X Z S : List Kn.Cr} {L L' x y : Nat} (h : Kn.SumOf X Z S x y) (g : Gd X L) (g' : Gd Z L') (hx : Kn.isArc X x) (hy : Kn.isArc Z y) (h8 : X.length + Z.length ≤ 8) (hL : L + L' ≤ 16) : Gd S (L + L') :=
  ⟨h.ok g.ok g'.ok hx hy, h.planar2 g.ok g'.ok hx hy g.pl g'.pl, by rw [h.len]; exact h8, by have := g.some; have := h.len; omega, hL⟩
theorem mir_gd {X : List Kn.Cr} {L : Nat} (g : Gd X L) : Gd (Kn.mirL X) L :=
  ⟨g.ok.mir_ok, by rw [g.ok.mir_planar]; exact g.pl, by rw [Kn.mirL_len]; exact g.len, by rw [Kn.mirL_len]; exact g.some, g.few⟩
/- a sum in a box -/
def SumBox (w0 : World) (S : List Kn.Cr) (L2 : Int) (n : Nat) (s : Value) (wx : World) : Prop := ∃ B a c, s = .pointer (some ⟨B, 0, none⟩) ∧ New w0 wx ∧ wx.heap[B]? = some (.cells #[.slice a n c, .int .i64 L2] 24 (0, 0)) ∧ CrsAt wx a S
theorem sumBox_old {w0 w13 : World} {S : List Kn.Cr} {L2 : Int} {a : Option Addr} {c n B base : Nat} (hN : New w0 w13) (hb : w13.heap[B]? = some (.cells #[.slice none 0 0, .int .i64 0] 24 (0, 0))) (hB : w0.heap.size ≤ B) (ho : w13.ownsRow base 58 5 (.slice a n c) n (crCells S)) (hn : n = S.length) :
    SumBox w0 S L2 n (.pointer (some ⟨B, 0, none⟩)) ((w13.setCell ⟨B, 0, none⟩ (.slice a n c)).setCell ⟨B, 1, none⟩ (.int .i64 L2)) := by
  subst hn
  have hF : Fr (fun k => k = B) w13 ((w13.setCell ⟨B, 0, none⟩ (.slice a S.length c)).setCell ⟨B, 1, none⟩ (.int .i64 L2)) := by refine Fr.setCell (Fr.setCell (Fr.refl _ w13) ?_ _) ?_ _ <;> exact .inl rfl
  have ho' := hF.owns ho fun k hk e => blk_not_own hb ho (by decide) (e ▸ hk)
  obtain ⟨a', c', e, hx⟩ := CrsAt.of_owns ho'
  cases e
  exact ⟨B, a, c, rfl, hN.next hF fun i hi => .inr (by rw [hi]; exact hB), (box2_set (box2_set hb (.slice a S.length c)).1 (.int .i64 L2)).2, hx⟩
theorem two_of {W : World} {B t : Nat} {a b : Value} (h : W.heap[B]? = some (.cells #[a, b] t (0, 0))) : W.cell? ⟨B, 0, none⟩ = some a ∧ W.cell? ⟨B, 1, none⟩ = some b := ⟨cell_of_row _ _ 0 _ t (0, 0) h, cell_of_row _ _ 1 _ t (0, 0) h⟩
theorem four_of {W : World} {B B' t t' : Nat} {a b a' b' : Value} (h : W.heap[B]? = some (.cells #[a, b] t (0, 0))) (h' : W.heap[B']? = some (.cells #[a', b'] t' (0, 0))) :
    W.cell? ⟨B, 0, none⟩ = some a ∧ W.cell? ⟨B, 1, none⟩ = some b ∧ W.cell? ⟨B', 0, none⟩ = some a' ∧ W.cell? ⟨B', 1, none⟩ = some b' := ⟨(two_of h).1, (two_of h).2, (two_of h').1, (two_of h').2⟩
theorem sum_own (a az : Option Addr) (n c nz cz x y m Ln Lm Ls : Nat) (X Z : List Kn.Cr) (w : World) (hx : CrsAt w a X) (hz : CrsAt w az Z) (hn : n = X.length) (hnz : nz = Z.length) (hm : Kn.mayB X Ln = true) (hmz : Kn.mayB Z Lm = true) (h8 : n + nz ≤ 16) (hL : Ln + Lm ≤ 16) (hx1 : 1 ≤ x) (hx2 : x ≤ 2 * n) (hy1 : 1 ≤ y) (hy2 : y ≤ 2 * nz) (hmm : m = (Kn.sumL X Z x y).length) (hls : Ls = Ln + Lm) :
    Calls Try.prog 9 #[.agg #[.slice a n c, .int .i64 (Ln : Nat)], .int .i64 (x : Nat), .agg #[.slice az nz cz, .int .i64 (Lm : Nat)], .int .i64 (y : Nat)] w (fun e w' => ∃ a' c', e = .returned (.tuple #[.agg #[.slice a' m c', .int .i64 (Ls : Nat)], .int .i64 0]) ∧ w'.ownsRow 0 58 5 (.slice a' m c') m (crCells (Kn.sumL X Z x y)) ∧ New w w') := by
  refine (sum_any a az n c nz cz x y X Z Ln Lm w hx hz hn hnz hm hmz h8 (by omega) hx1 hx2 hy1 hy2).mono ?_
  rintro e w' ⟨sc, rfl, ho, hF⟩
  obtain ⟨a', c', rfl, _⟩ := CrsAt.of_owns ho
  subst hmm hls
  exact ⟨a', c', by rw [Int.natCast_add], own0 ho, hF⟩
end Go.Proofs.Ytlicglicfijelaa
