/- Maps of coefficients: words. -/
import Derived.Maps.RangeWalk
import Derived.Maps.Ext
import Derived.Maps.OwnOps
import Derived.Test.YtcfpdeeipbekfaaP2
import Derived.Test.YtcfpdeeipbekfaaMAlld
namespace Go.Proofs.Ytcfpdeeipbekfaa
open Go.RowKit

theorem law3 : Maps.Keyed Try.prog 3 := Maps.int_keyed Try.underlying3
theorem zero3 (w : World) : (zeroValue 3).run Try.prog w = .ok (.int .i64 0) w := by kernel_rfl
theorem ul45 : Try.prog.underlying 101 = some (.map 3 3) := by kernel_rfl

/- a datum that reads as the coefficients of a list -/
structure RD (D : DataW Unit) (l : List Pl.T) : Prop where
  isMap : Maps.IsMap D
  val : ∀ e, D.atKey (.int .i64 e) (.lit (.int .i64 0)) = .lit (.int .i64 (Pl.co l e))
  key : ∀ e, Maps.has D (.int .i64 e) = true → ∃ t ∈ l, t.1 = e
theorem RD.empty : RD (.map []) [] := ⟨Maps.isMap_empty, fun _ => rfl, fun e h => by cases h⟩
theorem RD.put {D : DataW Unit} {l : List Pl.T} (h : RD D l) {e c v : Int} (hv : v = Pl.co l e + c) : RD (D.put (.int .i64 e) (.lit (.int .i64 v))) (l ++ [(e, c)]) := by
  have hk : WideAt.IsKeyLit (.int .i64 e) := trivial
  refine ⟨h.isMap.put _ _, fun x => ?_, fun x hx => ?_⟩
  · by_cases c0 : x = e
    · subst c0
      rw [Maps.atKey_put_same h.isMap hk, Pl.co_app, Pl.co_cons, Pl.co_nil, if_pos rfl, hv]; simp
    · have hne : (Lit.int .i64 x) ≠ .int .i64 e := fun z => c0 (by injection z)
      rw [Maps.atKey_put_other hne, h.val, Pl.co_app, Pl.co_cons, Pl.co_nil, if_neg fun z => c0 z.symm]; simp
  · by_cases c0 : x = e
    · exact ⟨(e, c), by simp, c0.symm⟩
    · have hne : (Lit.int .i64 x) ≠ .int .i64 e := fun z => c0 (by injection z)
      rw [Maps.has_put_other hne] at hx
      obtain ⟨t, ht, he⟩ := h.key x hx
      exact ⟨t, by simp [ht], he⟩
theorem RD.congr {D : DataW Unit} {l l' : List Pl.T} (h : RD D l) (hc : ∀ e, Pl.co l e = Pl.co l' e) (hk : ∀ t ∈ l, ∃ u ∈ l', u.1 = t.1) : RD D l' :=
  ⟨h.isMap, fun e => by rw [h.val, hc], fun e he => by
    obtain ⟨t, ht, rfl⟩ := h.key e he
    exact hk t ht⟩
theorem RD.not_has {D : DataW Unit} {l : List Pl.T} (h : RD D l) {e : Int} (he : Maps.has D (.int .i64 e) = false) : Pl.co l e = 0 := by
  have := h.val e
  rw [Maps.atKey_of_not_has he] at this
  injection this with this
  injection this with _ this
  exact this.symm
theorem RD.start {D : DataW Unit} {l : List Pl.T} (h : RD D l) : Pl.Part l (fun e => Maps.has D (.int .i64 e)) [] := Pl.Part.start fun _ he => h.not_has he
theorem RD.at {D : DataW Unit} {l : List Pl.T} (h : RD D l) {x c : Int} (hat : ∀ zd, D.atKey (.int .i64 x) zd = .lit (.int .i64 c)) : c = Pl.co l x ∧ ∃ t ∈ l, t.1 = x := by
  refine ⟨?_, h.key x (Maps.has_true_of_atKey hat)⟩
  have := hat (.lit (.int .i64 0))
  rw [h.val] at this
  injection this with this
  injection this with _ this
  exact this.symm
theorem RD.look {D : DataW Unit} {l : List Pl.T} (h : RD D l) {x c : Int} (hat : D.atKey (.int .i64 x) (.lit (.int .i64 0)) = .lit (.int .i64 c)) : c = Pl.co l x := by
  rw [h.val] at hat
  injection hat with hat
  injection hat with _ hat
  exact hat.symm
theorem look_bd {D : DataW Unit} {l : List Pl.T} (h : RD D l) {x c q y : Int} (hq : q = Pl.co l x) (hat : D.atKey (.int .i64 x) (.lit (.int .i64 0)) = .lit (.int .i64 c))
    (z1 : -1000000000000000000 ≤ q + y) (z2 : q + y ≤ 1000000000000000000) (z5 : -1000000000000000000 ≤ q) (z6 : q ≤ 1000000000000000000) :
    Hid (c = q) ∧ -1000000000000000000 ≤ c ∧ c ≤ 1000000000000000000 ∧ -1000000000000000000 ≤ c + y ∧ c + y ≤ 1000000000000000000 := by
  have e : c = q := by rw [hq]; exact h.look hat
  exact ⟨Lib.hid e, by rw [e]; exact z5, by rw [e]; exact z6, by rw [e]; exact z1, by rw [e]; exact z2⟩
theorem sameKey_i64 (x e : Int) : (Lit.int .i64 e).sameKey (.int .i64 x) = decide (e = x) := by simp [Lit.sameKey]

abbrev OM (w : World) (b n : Nat) (D : DataW Unit) : Prop := w.ownsMap Try.prog 3 (plainElem Try.prog 3) b n D
/- a polynomial at work: a map that reads as the list l, of at most n entries -/
def Wk (w : World) (v : Value) (l : List Pl.T) (n : Nat) : Prop := ∃ b D, v = .map (some b) ∧ OM w b n D ∧ RD D l
theorem New.om {w w' : World} (h : New w w') {b n : Nat} {D : DataW Unit} (ho : OM w b n D) : OM w' b n D := by
  obtain ⟨es, clock, hb, r⟩ := ho
  exact ⟨es, clock, (h.block b (Array.getElem?_eq_some_iff.1 hb).1 (fun x => x)).trans hb, r⟩
theorem New.wk {w w' : World} (h : New w w') {v : Value} {l : List Pl.T} {n : Nat} (hw : Wk w v l n) : Wk w' v l n := by
  obtain ⟨b, D, rfl, ho, hr⟩ := hw
  exact ⟨b, D, rfl, h.om ho, hr⟩
theorem OM.size {w : World} {b n : Nat} {D : DataW Unit} (ho : OM w b n D) : Maps.size D ≤ n := by
  obtain ⟨es, clock, hb, hf, hn, rfl⟩ := ho
  rw [Maps.size_eq, length_sorted]
  simpa using hn
def GaveW (l : List Pl.T) (n : Nat) (w : World) (e : Ending) (w' : World) : Prop := ∃ v, e = .returned v ∧ Wk w' v l n ∧ New w w'

theorem take_getD {l : List Pl.T} {k : Nat} (hk : k < l.length) : l.take (k + 1) = l.take k ++ [((l.getD k (0, 0)).1, (l.getD k (0, 0)).2)] := by
  rw [List.take_succ_eq_append_getElem hk, List.getD_eq_getElem?_getD, List.getElem?_eq_getElem hk]; rfl
theorem size_take (l : List Pl.T) (k : Nat) : Pl.size (l.take k) ≤ Pl.size l := by
  conv => rhs; rw [← List.take_append_drop k l, Pl.size_app]
  omega
def Exps (N : Int) (l : List Pl.T) : Prop := ∀ t ∈ l, -N ≤ t.1 ∧ t.1 ≤ N

end Go.Proofs.Ytcfpdeeipbekfaa
