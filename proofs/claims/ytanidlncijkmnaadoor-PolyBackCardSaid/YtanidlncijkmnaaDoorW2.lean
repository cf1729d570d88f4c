/- Walks: small. -/
import Derived.Test.YtanidlncijkmnaaDoorW1
namespace Go.Proofs.YtanidlncijkmnaaDoor
open Go.RowKit

def IntsAt (w : World) (a : Option Addr) (xs : List Int) : Prop :=
  xs = [] ∨ ∃ b o, a = some ⟨b, o, none⟩ ∧ ∀ i, i < xs.length → w.cell? ⟨b, o + i, none⟩ = some (.int .i64 (xs.getD i 0))
theorem New.ints {w w' : World} (h : New w w') {a : Option Addr} {xs : List Int} (hi : IntsAt w a xs) : IntsAt w' a xs := by
  rcases hi with rfl | ⟨b, o, rfl, hc⟩
  · exact .inl rfl
  · exact .inr ⟨b, o, rfl, fun i hi => h.cell (hc i hi) (fun x => x)⟩
theorem IntsAt.at {w : World} {a : Option Addr} {xs : List Int} (h : IntsAt w a xs) {k : Nat} (hk : k < xs.length) :
    ∃ b o, a = some ⟨b, o, none⟩ ∧ w.cell? ⟨b, o + k, none⟩ = some (.int .i64 (xs.getD k 0)) := by
  rcases h with rfl | ⟨b, o, rfl, h⟩
  · simp at hk
  · exact ⟨b, o, rfl, h k hk⟩
def Raw (xs : List Int) : Prop := ∀ x ∈ xs, -9223372036854775808 ≤ x ∧ x ≤ 9223372036854775807
theorem Raw.get {xs : List Int} (h : Raw xs) (k : Nat) : -9223372036854775808 ≤ xs.getD k 0 ∧ xs.getD k 0 ≤ 9223372036854775807 := by
  rw [List.getD_eq_getElem?_getD]
  cases e : xs[k]? with
  | none => simp
  | some x => exact h x (List.mem_of_getElem? e)

/- the cells of terms; a row of the call's own that holds them -/
def cellsT (l : List Pl.T) : List Value := l.flatMap fun t => [.int .i64 t.1, .int .i64 t.2]
theorem cellsT_app (l m : List Pl.T) : cellsT (l ++ m) = cellsT l ++ cellsT m := by simp [cellsT]
theorem cellsT_at : ∀ (l : List Pl.T) (i : Nat), i < l.length → (cellsT l)[i * 2]? = some (.int .i64 (l.getD i (0, 0)).1) ∧ (cellsT l)[i * 2 + 1]? = some (.int .i64 (l.getD i (0, 0)).2)
  | [], i, h => by simp at h
  | t :: l, 0, _ => by simp [cellsT]
  | t :: l, i + 1, h => by
    have := cellsT_at l i (by simpa using h)
    have e1 : (i + 1) * 2 = i * 2 + 2 := by omega
    have e2 : cellsT (t :: l) = [.int .i64 t.1, .int .i64 t.2] ++ cellsT l := rfl
    rw [e1, e2]
    simp only [List.getD_cons_succ]
    refine ⟨?_, ?_⟩
    · rw [List.getElem?_append_right (by simp)]; simpa using this.1
    · rw [List.getElem?_append_right (by simp)]; simpa using this.2
def OwnT (base : Nat) (w : World) (v : Value) (l : List Pl.T) : Prop := w.ownsRow base 31 2 v l.length (cellsT l)
theorem OwnT.nil_ (base : Nat) (w : World) : OwnT base w (.slice none 0 0) [] := World.ownsRow_nil _ _ _ _
theorem OwnT.ts {base : Nat} {w : World} {v : Value} {l : List Pl.T} (h : OwnT base w v l) : Ts w v l := by
  have hl := h.1
  rcases h.2 with ⟨rfl, hn⟩ | ⟨g, cap, cur, rfl, hb, hg, h1, h2, h3, h4⟩
  · have : l = [] := List.eq_nil_of_length_eq_zero hn
    subst this
    exact ⟨none, 0, rfl, .inl rfl⟩
  · refine ⟨_, _, rfl, .inr ⟨g, 0, rfl, fun i hi => ?_⟩⟩
    have hc := cellsT_at l i hi
    have hcell : ∀ j x, (cellsT l)[j]? = some x → w.cell? ⟨g, 0 + j, none⟩ = some x := fun j x hx => by
      rw [cell_of_row w g (0 + j) cur 31 (0, 0) hg]
      rw [← h4] at hx
      have hj : j < l.length * 2 := by
        rcases Nat.lt_or_ge j (l.length * 2) with c | c
        · exact c
        · rw [List.getElem?_eq_none (by rw [List.length_take]; omega)] at hx; cases hx
      rw [List.getElem?_take_of_lt hj] at hx
      rw [Nat.zero_add, ← Array.getElem?_toList]
      exact hx
    exact ⟨hcell _ _ hc.1, by have := hcell _ _ hc.2; simpa [Nat.add_assoc] using this⟩
theorem New.appended {w wr w1 : World} {e : TypeId} {size : Nat} {v : Value} {n : Nat} {xs : List Value} {o : Obj} (hF : New w wr) (hO : wr.ownsRow w.heap.size e size v n xs) (hg : (wr.alloc o).grownBy w1 v.ownBlock) : New w w1 :=
  (Fr.alloc hF o).grown hg fun k ek => .inr (hO.lt k ek).1
theorem OwnT.snoc {base : Nat} {w : World} {v : Value} {l : List Pl.T} {x y : Int} (h : w.ownsRow base 31 2 v (l.length + 1) (cellsT l ++ [.int .i64 x, .int .i64 y])) : OwnT base w v (l ++ [(x, y)]) := by
  unfold OwnT
  have e1 : (l ++ [(x, y)]).length = l.length + 1 := by simp
  rw [e1, cellsT_app]; exact h
theorem cell_two_new (w : World) (x y : Value) (t : TypeId) : ∀ j u, [x, y][j]? = some u → (w.alloc (.cells #[x, y] t)).cell? ((⟨w.heap.size, 0, none⟩ : Addr).add j) = some u := by
  intro j u hj
  have hg : (w.alloc (.cells #[x, y] t)).heap[w.heap.size]? = some (.cells #[x, y] t (0, 0)) := heap_alloc_new w _
  match j, hj with
  | 0, hj => exact (cell_of_row _ _ 0 _ t (0, 0) hg).trans (by simpa using hj)
  | 1, hj => exact (cell_of_row _ _ 1 _ t (0, 0) hg).trans (by simpa using hj)
theorem two_ints (x y : Int) : ∀ u ∈ [Value.int .i64 x, Value.int .i64 y], u.oneCell' = true := by simp [Value.oneCell']

/- what a call of a polynomial's function gives -/
def GaveT (l : List Pl.T) (w : World) (e : Ending) (w' : World) : Prop := ∃ v, e = .returned v ∧ Ts w' v l ∧ New w w'

theorem info31 : (Tryd.prog.info? 31).map (fun i => (i.zero, i.size, i.bytes)) = some (some (.agg #[.int .i64 0, .int .i64 0]), 2, 16) := by kernel_rfl

/- what small makes -/
def smf (raw : List Int) (e : Int) : Int := pick (raw.getD (e + 4).toNat 0) 19 - 9
def sm (raw : List Int) : List Pl.T := Pl.ofMap (smf raw) (Pl.keys (min raw.length 9))
theorem smf_le (raw : List Int) (e : Int) : (smf raw e).natAbs ≤ 9 := by
  have := pick_range (n := raw.getD (e + 4).toNat 0) (m := 19) (by omega)
  unfold smf; omega
theorem sm_in (raw : List Int) : Pl.Form (sm raw) ∧ Pl.In 4 81 (sm raw) := Pl.small_in (smf_le raw) (by omega)
theorem smk_length (raw : List Int) : ∀ k, (Pl.ofMap (smf raw) (Pl.keys k)).length ≤ k := fun k => by
  have : ∀ ks : List Int, (Pl.ofMap (smf raw) ks).length ≤ ks.length := fun ks => by
    induction ks with
    | nil => simp [Pl.ofMap]
    | cons a l ih =>
      unfold Pl.ofMap
      split <;> simp <;> omega
  have h := this (Pl.keys k)
  simpa [Pl.keys] using h
theorem smk_succ (raw : List Int) (k : Nat) : Pl.ofMap (smf raw) (Pl.keys (k + 1)) = Pl.ofMap (smf raw) (Pl.keys k) ++ (if pick (raw.getD k 0) 19 - 9 = 0 then [] else [((k : Int) - 4, pick (raw.getD k 0) 19 - 9)]) := by
  rw [Pl.keys_succ, Pl.ofMap_app]
  have e : smf raw ((k : Int) - 4) = pick (raw.getD k 0) 19 - 9 := by
    unfold smf
    rw [show ((k : Int) - 4 + 4).toNat = k from by omega]
  simp only [Pl.ofMap, e]

set_option maxRecDepth 100000 in
set_option maxHeartbeats 1000000 in
theorem small_any (a : Option Addr) (len c : Nat) (raw : List Int) (w : World) (hlen : len = raw.length) (hx : IntsAt w a raw) (lx : raw.length ≤ 9223372036854775807) (hr : Raw raw) :
    Calls Tryd.prog 4 #[.slice a len c] w (GaveT (sm raw) w) := by
  subst hlen
  have HX := Lib.hid hx
  have HR := Lib.hid hr
  clear hx hr
  obtain ⟨i0, hi, hz0, hz1, hz2⟩ := info_parts info31
  go_enter Tryd.func4, Tryd.ntmps4
  go_wp2
  go_loopw [3, 4, 5] (fun v i _ wr => ∃ (k m : Nat) (l : List Pl.T), k ≤ raw.length ∧ k ≤ 9 ∧ i = .int .i64 k ∧ l.length = m ∧ m ≤ k ∧ Hid (l = Pl.ofMap (smf raw) (Pl.keys k)) ∧ Hid (OwnT w.heap.size wr v l) ∧ Hid (New w wr)) (fun _ i _ _ => 9 - (intOf i).toNat)
  case atStart => exact ⟨0, 0, [], by omega, by omega, rfl, rfl, by omega, Lib.hid rfl, Lib.hid (OwnT.nil_ _ _), Lib.hid (Fr.refl _ _)⟩
  case round =>
    obtain ⟨k, m, l, hk, hk9, rfl, hm, hmk, HL, HO, HF⟩ := hrel
    have HM := Lib.hid hm
    clear hm
    by_cases hlt : k < raw.length
    · by_cases h9 : k < 9
      · obtain ⟨b, o, rfl, d1⟩ := (New.ints HF.out HX.out).at hlt
        obtain ⟨x, HXk⟩ : ∃ x, Hid (x = raw.getD k 0) := ⟨_, Lib.hid rfl⟩
        have hb := HR.out.get k
        rw [← HXk.out] at d1 hb
        have cc := picked_any x 19 wr hb.1 hb.2 (by omega) (by omega)
        have hp := pick_range (n := x) (m := 19) (by omega)
        obtain ⟨q, HQ⟩ : ∃ q, Hid (q = pick x 19) := ⟨_, Lib.hid rfl⟩
        rw [← HQ.out] at cc hp
        have CC := Lib.hid cc
        have hp1 := hp.1
        have hp2 := hp.2
        have hs := smk_succ raw k
        rw [← HXk.out, ← HQ.out, ← HL.out] at hs
        have HS := Lib.hid hs
        clear cc hp hb hs
        by_cases hq : q - 9 = 0
        · go_wp2_with fail
          refine CC.out.mono ?_
          rintro e w' ⟨rfl, rfl⟩
          go_wp2
          go_roundw
          case rel => exact ⟨k + 1, m, l, by omega, by omega, by go_num, HM.out, by omega, Lib.hid (by rw [HS.out, if_pos hq]; simp), HO, HF⟩
          case measure => simp [intOf]; omega
        · go_wp2_with fail
          refine CC.out.mono ?_
          rintro e w' ⟨rfl, rfl⟩
          go_wp2_with (at_builtin; refine wpList_append_own _ rfl _ _ 23 rfl w.heap.size 31 i0 (.agg #[.int .i64 0, .int .i64 0]) 2 16 Tryd.underlying23 hi hz0 hz1 hz2 rfl (by decide) _ l.length (cellsT l) rfl ?d0 ⟨_, 0, none⟩ 1 1 [.int .i64 ((k : Int) - 4), .int .i64 (q - 9)] rfl rfl ?d2 ?d3 ?d4 ?d5 ?d6 ?_)
          case d0 => exact World.ownsRow.alloc HO.out _
          case d2 => exact cell_two_new _ _ _ _
          case d3 => exact two_ints _ _
          case d4 => have := HM.out; unfold maxLen; omega
          case d5 => have := HM.out; omega
          case d6 => have := HF.out.size; simp; omega
          intro v' w1 hown hgrow _
          have hnew := Lib.hid (New.appended HF.out HO.out hgrow)
          have ho := Lib.hid (OwnT.snoc hown)
          clear hown hgrow
          go_wp2
          go_roundw
          case rel => exact ⟨k + 1, m + 1, l ++ [((k : Int) - 4, q - 9)], by omega, by omega, by go_num, by simp [HM.out], by omega, Lib.hid (by rw [HS.out, if_neg hq]), ho, hnew⟩
          case measure => simp [intOf]; omega
      · obtain rfl : k = 9 := by omega
        go_wp2
        go_ret
        exact ⟨_, rfl, by have := HO.out.ts; rw [HL.out] at this; unfold sm; rw [show min raw.length 9 = 9 from by omega]; exact this, HF.out⟩
    · go_wp2
      go_ret
      exact ⟨_, rfl, by have := HO.out.ts; rw [HL.out] at this; unfold sm; rw [show min raw.length 9 = k from by omega]; exact this, HF.out⟩
end Go.Proofs.YtanidlncijkmnaaDoor
