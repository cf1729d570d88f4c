/- Maps of coefficients: words; Of. -/
import Derived.Test.YtjgmlicmjpgfcaaDoorW4
import Derived.Test.YtjgmlicmjpgfcaaDoorMPoly2
import Derived.Maps.RangeWalk
import Derived.Maps.Ext
import Derived.Maps.OwnOps
namespace Go.Proofs.YtjgmlicmjpgfcaaDoor
open Go.RowKit

theorem law3 : Maps.Keyed Tryd.prog 3 := Maps.int_keyed Tryd.underlying3
theorem zero3 (w : World) : (zeroValue 3).run Tryd.prog w = .ok (.int .i64 0) w := by kernel_rfl
theorem ul45 : Tryd.prog.underlying 45 = some (.map 3 3) := by kernel_rfl

/- a datum that reads as the coefficients of a list -/
structure RD (D : DataW Unit) (l : List Pl.T) : Prop where
  isMap : Maps.IsMap D
  val : ∀ e, D.atKey (.int .i64 e) (.lit (.int .i64 0)) = .lit (.int .i64 (Pl.co l e))
  key : ∀ e, Maps.has D (.int .i64 e) = true → ∃ t ∈ l, t.1 = e
theorem RD.empty : RD (.map []) [] := ⟨Maps.isMap_empty, fun _ => rfl, fun e h => by cases h⟩
theorem RD.put {D : DataW Unit} {l : List Pl.T} (h : RD D l) {e c v : Int} (hv : v = Pl.co l e + c) : RD (D.put (.int .i64 e) (.lit (.int .i64 v))) (l ++ [(e, c)]) := by
  have hk : WideAt.IsKeyLit (.int .i64 e) := trivial
  refine ⟨h.isMap.put _ _, fun x => ?_, fun x hx => ?_⟩
  · by_cases c0 : x = e
    · subst c0
      rw [Maps.atKey_put_same h.isMap hk, Pl.co_app, Pl.co_cons, Pl.co_nil, if_pos rfl, hv]; simp
    · have hne : (Lit.int .i64 x) ≠ .int .i64 e := fun z => c0 (by injection z)
      rw [Maps.atKey_put_other hne, h.val, Pl.co_app, Pl.co_cons, Pl.co_nil, if_neg fun z => c0 z.symm]; simp
  · by_cases c0 : x = e
    · exact ⟨(e, c), by simp, c0.symm⟩
    · have hne : (Lit.int .i64 x) ≠ .int .i64 e := fun z => c0 (by injection z)
      rw [Maps.has_put_other hne] at hx
      obtain ⟨t, ht, he⟩ := h.key x hx
      exact ⟨t, by simp [ht], he⟩
theorem RD.congr {D : DataW Unit} {l l' : List Pl.T} (h : RD D l) (hc : ∀ e, Pl.co l e = Pl.co l' e) (hk : ∀ t ∈ l, ∃ u ∈ l', u.1 = t.1) : RD D l' :=
  ⟨h.isMap, fun e => by rw [h.val, hc], fun e he => by
    obtain ⟨t, ht, rfl⟩ := h.key e he
    exact hk t ht⟩
theorem RD.not_has {D : DataW Unit} {l : List Pl.T} (h : RD D l) {e : Int} (he : Maps.has D (.int .i64 e) = false) : Pl.co l e = 0 := by
  have := h.val e
  rw [Maps.atKey_of_not_has he] at this
  injection this with this
  injection this with _ this
  exact this.symm
theorem RD.start {D : DataW Unit} {l : List Pl.T} (h : RD D l) : Pl.Part l (fun e => Maps.has D (.int .i64 e)) [] := Pl.Part.start fun _ he => h.not_has he
theorem RD.at {D : DataW Unit} {l : List Pl.T} (h : RD D l) {x c : Int} (hat : ∀ zd, D.atKey (.int .i64 x) zd = .lit (.int .i64 c)) : c = Pl.co l x ∧ ∃ t ∈ l, t.1 = x := by
  refine ⟨?_, h.key x (Maps.has_true_of_atKey hat)⟩
  have := hat (.lit (.int .i64 0))
  rw [h.val] at this
  injection this with this
  injection this with _ this
  exact this.symm
theorem RD.look {D : DataW Unit} {l : List Pl.T} (h : RD D l) {x c : Int} (hat : D.atKey (.int .i64 x) (.lit (.int .i64 0)) = .lit (.int .i64 c)) : c = Pl.co l x := by
  rw [h.val] at hat
  injection hat with hat
  injection hat with _ hat
  exact hat.symm
theorem look_bd {D : DataW Unit} {l : List Pl.T} (h : RD D l) {x c q y : Int} (hq : q = Pl.co l x) (hat : D.atKey (.int .i64 x) (.lit (.int .i64 0)) = .lit (.int .i64 c))
    (z1 : -1000000000000000000 ≤ q + y) (z2 : q + y ≤ 1000000000000000000) (z5 : -1000000000000000000 ≤ q) (z6 : q ≤ 1000000000000000000) :
    Hid (c = q) ∧ -1000000000000000000 ≤ c ∧ c ≤ 1000000000000000000 ∧ -1000000000000000000 ≤ c + y ∧ c + y ≤ 1000000000000000000 := by
  have e : c = q := by rw [hq]; exact h.look hat
  exact ⟨Lib.hid e, by rw [e]; exact z5, by rw [e]; exact z6, by rw [e]; exact z1, by rw [e]; exact z2⟩
theorem sameKey_i64 (x e : Int) : (Lit.int .i64 e).sameKey (.int .i64 x) = decide (e = x) := by simp [Lit.sameKey]

abbrev OM (w : World) (b n : Nat) (D : DataW Unit) : Prop := w.ownsMap Tryd.prog 3 (plainElem Tryd.prog 3) b n D
/- a polynomial at work: a map that reads as the list l, of at most n entries -/
def Wk (w : World) (v : Value) (l : List Pl.T) (n : Nat) : Prop := ∃ b D, v = .map (some b) ∧ OM w b n D ∧ RD D l
theorem New.om {w w' : World} (h : New w w') {b n : Nat} {D : DataW Unit} (ho : OM w b n D) : OM w' b n D := by
  obtain ⟨es, clock, hb, r⟩ := ho
  exact ⟨es, clock, (h.block b (Array.getElem?_eq_some_iff.1 hb).1 (fun x => x)).trans hb, r⟩
theorem New.wk {w w' : World} (h : New w w') {v : Value} {l : List Pl.T} {n : Nat} (hw : Wk w v l n) : Wk w' v l n := by
  obtain ⟨b, D, rfl, ho, hr⟩ := hw
  exact ⟨b, D, rfl, h.om ho, hr⟩
theorem OM.size {w : World} {b n : Nat} {D : DataW Unit} (ho : OM w b n D) : Maps.size D ≤ n := by
  obtain ⟨es, clock, hb, hf, hn, rfl⟩ := ho
  rw [Maps.size_eq, length_sorted]
  simpa using hn
def GaveW (l : List Pl.T) (n : Nat) (w : World) (e : Ending) (w' : World) : Prop := ∃ v, e = .returned v ∧ Wk w' v l n ∧ New w w'

theorem take_getD {l : List Pl.T} {k : Nat} (hk : k < l.length) : l.take (k + 1) = l.take k ++ [((l.getD k (0, 0)).1, (l.getD k (0, 0)).2)] := by
  rw [List.take_succ_eq_append_getElem hk, List.getD_eq_getElem?_getD, List.getElem?_eq_getElem hk]; rfl
theorem size_take (l : List Pl.T) (k : Nat) : Pl.size (l.take k) ≤ Pl.size l := by
  conv => rhs; rw [← List.take_append_drop k l, Pl.size_app]
  omega
theorem wf64 {a : Int} (h : -9223372036854775808 ≤ a ∧ a ≤ 9223372036854775807) : (Lit.int .i64 a).wf = true := WalkArith.wf_i64 h
def Exps (N : Int) (l : List Pl.T) : Prop := ∀ t ∈ l, -N ≤ t.1 ∧ t.1 ≤ N

set_option maxRecDepth 100000 in
set_option maxHeartbeats 1000000 in
theorem of_any (v : Value) (l : List Pl.T) (w : World) (hx : Ts w v l) (hl : l.length ≤ 1000000) (he : Exps 1000000000 l) (hs : Pl.size l ≤ 1000000000000000000) :
    Calls Tryd.prog 25 #[v] w (GaveW l l.length w) := by
  obtain ⟨a, c, rfl, hx⟩ := hx
  obtain ⟨n, hn⟩ : ∃ n, n = l.length := ⟨_, rfl⟩
  rw [← hn] at hl ⊢
  have HN := Lib.hid hn
  have HX := Lib.hid hx
  have HE := Lib.hid he
  have HS := Lib.hid hs
  clear hn hx he hs
  have hmm := @run_makeMap Tryd.prog
  go_enter Tryd.func25, Tryd.ntmps25
  go_wp2
  go_loopw [9] (fun i wr => ∃ (k : Nat) (D : DataW Unit), k ≤ n ∧ i = .int .i64 k ∧ Hid (OM wr w.heap.size k D) ∧ Hid (RD D (l.take k)) ∧ Hid (New w wr)) (fun i _ => n - (intOf i).toNat)
  case atStart => exact ⟨0, .map [], by omega, rfl, Lib.hid (World.ownsMap_made _ _ _ _), Lib.hid (by rw [List.take_zero]; exact RD.empty), Lib.hid ((Fr.refl _ _).alloc _)⟩
  case round =>
    obtain ⟨k, D, hk, rfl, HO, HD, HF⟩ := hrel
    by_cases hlt : k < n
    · have hkl : k < l.length := by have := HN.out; omega
      obtain ⟨b, o, rfl, d1, d2⟩ := (New.terms HF.out HX.out).at hkl
      have hb := HE.out (l.getD k (0, 0)) (by rw [List.getD_eq_getElem?_getD, List.getElem?_eq_getElem hkl]; exact List.getElem_mem hkl)
      have ht := take_getD hkl
      have hz := Pl.co_le' (Nat.le_trans (size_take l (k + 1)) HS.out) (l.getD k (0, 0)).1
      obtain ⟨e1, H1⟩ : ∃ e, Hid (e = (l.getD k (0, 0)).1) := ⟨_, Lib.hid rfl⟩
      obtain ⟨e2, H2⟩ : ∃ e, Hid (e = (l.getD k (0, 0)).2) := ⟨_, Lib.hid rfl⟩
      rw [← H1.out] at d1 hb ht hz
      rw [← H2.out] at d2 ht
      rw [ht, Pl.co_app, Pl.co_cons, Pl.co_nil, if_pos rfl, Int.add_zero] at hz
      obtain ⟨b1, b2⟩ := hb
      obtain ⟨q, HQ⟩ : ∃ q, Hid (q = Pl.co (l.take k) e1) := ⟨_, Lib.hid rfl⟩
      rw [← HQ.out] at hz
      have z1 : -1000000000000000000 ≤ q + e2 := by omega
      have z2 : q + e2 ≤ 1000000000000000000 := by omega
      clear hz
      have HT := Lib.hid ht
      clear ht
      have z3 := Pl.co_le' (Nat.le_trans (size_take l k) HS.out) e1
      rw [← HQ.out] at z3
      have z5 : -1000000000000000000 ≤ q := by omega
      have z6 : q ≤ 1000000000000000000 := by omega
      clear z3
      go_wp2_with (first
        | (at_lookup; refine wpList_lookup_own_int _ rfl _ _ 45 rfl 3 3 .i64 law3 ul45 Tryd.underlying3 (zero3 _) w.heap.size k _ rfl (World.ownsMap.alloc HO.out _) _ _ rfl (Maps.keyOf_int_mk Tryd.underlying3 (wf64 (by omega))) ?_; intro cc hat hwc; obtain ⟨HC, c1, c2, c3, c4⟩ := look_bd HD.out HQ.out hat z1 z2 z5 z6; have c5 : -2000000000000000000 ≤ e2 := (by omega); have c6 : e2 ≤ 2000000000000000000 := (by omega); clear hat hwc)
        | (at_mapUpdate; refine wpList_mapUpdate_own _ rfl _ _ _ 45 rfl 3 3 law3 ul45 _ w.heap.size k _ rfl (World.ownsMap.alloc HO.out _) (by unfold maxLen; omega) _ _ _ rfl rfl (Maps.keyOf_int_mk Tryd.underlying3 (wf64 (by omega))) _ [] (plainElem_int Tryd.underlying3 (wf64 (by omega))) ?_; intro w2 hown2 hg2)
        | go_in)
      have HO2 := Lib.hid hown2
      have HG2 := Lib.hid hg2
      clear hown2 hg2
      go_wp2
      go_roundw
      case rel => exact ⟨k + 1, _, by omega, by go_num, HO2, Lib.hid (by rw [HT.out]; exact RD.put HD.out (by rw [HC.out, HQ.out])), Lib.hid ((Fr.alloc HF.out _).grown HG2.out fun k ek => .inr (by cases ek; exact Nat.le_refl _))⟩
      case measure => simp [intOf]; omega
    · obtain rfl : k = n := by omega
      go_wp2
      go_ret
      exact ⟨_, rfl, ⟨_, D, rfl, HO.out, by have := HD.out; rwa [HN.out, List.take_length] at this⟩, HF.out⟩
end Go.Proofs.YtjgmlicmjpgfcaaDoor
