/- Walks: the tables of PolyDets. -/
import Derived.Test.YtjgmlicmjpgfcaaDoorW15
namespace Go.Proofs.YtjgmlicmjpgfcaaDoor
open Go.RowKit Go.Maps

/- terms in a row of the call's own -/
def GaveOT (l : List Pl.T) (w : World) (e : Ending) (w' : World) : Prop := ∃ v, e = .returned v ∧ OwnT w.heap.size w' v l ∧ New w w'
set_option maxHeartbeats 1000000 in
theorem smallOwn_any (a : Option Addr) (len c : Nat) (raw : List Int) (w : World) (hlen : len = raw.length) (hx : IntsAt w a raw) (lx : raw.length ≤ 9223372036854775807) (hr : Raw raw) :
    Calls Tryd.prog 5 #[.slice a len c] w (GaveOT (sm raw) w) := by
  subst hlen
  have HX := Lib.hid hx
  have HR := Lib.hid hr
  clear hx hr
  obtain ⟨i0, hi, hz0, hz1, hz2⟩ := info_parts info26
  go_enter Tryd.func5, Tryd.ntmps5
  go_wp2
  go_loopw [3, 4, 5] (fun v i _ wr => ∃ (k m : Nat) (l : List Pl.T), k ≤ raw.length ∧ k ≤ 9 ∧ i = .int .i64 k ∧ l.length = m ∧ m ≤ k ∧ Hid (l = Pl.ofMap (smf raw) (Pl.keys k)) ∧ Hid (OwnT w.heap.size wr v l) ∧ Hid (New w wr)) (fun _ i _ _ => 9 - (intOf i).toNat)
  case atStart => exact ⟨0, 0, [], by omega, by omega, rfl, rfl, by omega, Lib.hid rfl, Lib.hid (OwnT.nil_ _ _), Lib.hid (Fr.refl _ _)⟩
  case round =>
    obtain ⟨k, m, l, hk, hk9, rfl, hm, hmk, HL, HO, HF⟩ := hrel
    have HM := Lib.hid hm
    clear hm
    by_cases hlt : k < raw.length
    · by_cases h9 : k < 9
      · obtain ⟨b, o, rfl, d1⟩ := (New.ints HF.out HX.out).at hlt
        obtain ⟨x, HXk⟩ : ∃ x, Hid (x = raw.getD k 0) := ⟨_, Lib.hid rfl⟩
        have hb := HR.out.get k
        rw [← HXk.out] at d1 hb
        have cc := picked_any x 19 wr hb.1 hb.2 (by omega) (by omega)
        have hp := pick_range (n := x) (m := 19) (by omega)
        obtain ⟨q, HQ⟩ : ∃ q, Hid (q = pick x 19) := ⟨_, Lib.hid rfl⟩
        rw [← HQ.out] at cc hp
        have CC := Lib.hid cc
        have hp1 := hp.1
        have hp2 := hp.2
        have hs := smk_succ raw k
        rw [← HXk.out, ← HQ.out, ← HL.out] at hs
        have HS := Lib.hid hs
        clear cc hp hb hs
        by_cases hq : q - 9 = 0
        · go_wp2_with fail
          refine CC.out.mono ?_
          rintro e w' ⟨rfl, rfl⟩
          go_wp2
          go_roundw
          case rel => exact ⟨k + 1, m, l, by omega, by omega, by go_num, HM.out, by omega, Lib.hid (by rw [HS.out, if_pos hq]; simp), HO, HF⟩
          case measure => simp [intOf]; omega
        · go_wp2_with fail
          refine CC.out.mono ?_
          rintro e w' ⟨rfl, rfl⟩
          go_wp2_with (at_builtin; refine wpList_append_own _ rfl _ _ 23 rfl w.heap.size 26 i0 (.agg #[.int .i64 0, .int .i64 0]) 2 16 Tryd.underlying23 hi hz0 hz1 hz2 rfl (by decide) _ l.length (cellsT l) rfl ?d0 ⟨_, 0, none⟩ 1 1 [.int .i64 ((k : Int) - 4), .int .i64 (q - 9)] rfl rfl ?d2 ?d3 ?d4 ?d5 ?d6 ?_)
          case d0 => exact World.ownsRow.alloc HO.out _
          case d2 => exact cell_two_new _ _ _ _
          case d3 => exact two_ints _ _
          case d4 => have := HM.out; unfold maxLen; omega
          case d5 => have := HM.out; omega
          case d6 => have := HF.out.size; simp; omega
          intro v' w1 hown hgrow _
          have hnew := Lib.hid (New.appended HF.out HO.out hgrow)
          have ho := Lib.hid (OwnT.snoc hown)
          clear hown hgrow
          go_wp2
          go_roundw
          case rel => exact ⟨k + 1, m + 1, l ++ [((k : Int) - 4, q - 9)], by omega, by omega, by go_num, by simp [HM.out], by omega, Lib.hid (by rw [HS.out, if_neg hq]), ho, hnew⟩
          case measure => simp [intOf]; omega
      · obtain rfl : k = 9 := by omega
        go_wp2
        go_ret
        exact ⟨_, rfl, by have := HO.out; rw [HL.out] at this; unfold sm; rw [show min raw.length 9 = 9 from by omega]; exact this, HF.out⟩
    · go_wp2
      go_ret
      exact ⟨_, rfl, by have := HO.out; rw [HL.out] at this; unfold sm; rw [show min raw.length 9 = k from by omega]; exact this, HF.out⟩

theorem OwnT.shape {b : Nat} {w : World} {v : Value} {l : List Pl.T} (h : OwnT b w v l) : ∃ a c, v = .slice a l.length c ∧ l.length ≤ c ∧ (l = [] ∨ ∃ g, a = some ⟨g, 0, none⟩ ∧ b ≤ g) := by
  rcases h.2 with ⟨rfl, hn⟩ | ⟨g, cap, cur, rfl, hb, hg, h1, h2, h3, h4⟩
  · have : l = [] := List.eq_nil_of_length_eq_zero hn
    subst this
    exact ⟨none, 0, rfl, by simp, .inl rfl⟩
  · exact ⟨_, _, rfl, h1, .inr ⟨g, rfl, hb⟩⟩
theorem cellsT_length (l : List Pl.T) : (cellsT l).length = l.length * 2 := by
  induction l with
  | nil => rfl
  | cons t l ih =>
    have e2 : cellsT (t :: l) = [.int .i64 t.1, .int .i64 t.2] ++ cellsT l := rfl
    rw [e2, List.length_append, ih]
    simp only [List.length_cons, List.length_nil]
    omega
theorem cellsT_take (l : List Pl.T) (k : Nat) : cellsT (l.take k) = (cellsT l).take (k * 2) := by
  induction l generalizing k with
  | nil => simp [cellsT]
  | cons t l ih =>
    cases k with
    | zero => simp [cellsT]
    | succ k =>
      have e2 : cellsT (t :: l) = .int .i64 t.1 :: .int .i64 t.2 :: cellsT l := rfl
      have e3 : cellsT (t :: l.take k) = .int .i64 t.1 :: .int .i64 t.2 :: cellsT (l.take k) := rfl
      rw [List.take_succ_cons, e3, e2, ih k, show (k + 1) * 2 = k * 2 + 1 + 1 from by omega, List.take_succ_cons, List.take_succ_cons]
theorem OwnT.cut {b : Nat} {w : World} {a : Option Addr} {n c k : Nat} {l : List Pl.T} (h : OwnT b w (.slice a n c) l) (hk : k < l.length) : OwnT b w (.slice a k c) (l.take k) := by
  rcases h.2 with ⟨he, hn⟩ | ⟨g, cap, cur, he, hb, hg, h1, h2, h3, h4⟩
  · omega
  · injection he with e1 e2 e3
    subst e1
    subst e3
    have hl : (l.take k).length = k := by rw [List.length_take]; omega
    refine ⟨by rw [cellsT_length], .inr ⟨g, c, cur, by rw [hl], hb, hg, by rw [hl]; omega, h2, h3, ?_⟩⟩
    rw [hl, cellsT_take, ← h4, List.take_take]
    congr 1
    omega
theorem cellsT_set (l : List Pl.T) (i : Nat) (d : Int) (hi : i < l.length) : cellsT (l.set i ((l.getD i (0, 0)).1, d)) = (cellsT l).set (i * 2 + 1) (.int .i64 d) := by
  induction l generalizing i with
  | nil => simp at hi
  | cons t l ih =>
    have e2 : ∀ (u : Pl.T) (l : List Pl.T), cellsT (u :: l) = .int .i64 u.1 :: .int .i64 u.2 :: cellsT l := fun _ _ => rfl
    cases i with
    | zero => simp [e2]
    | succ i =>
      have := ih i (by simpa using hi)
      rw [List.set_cons_succ, e2, e2, List.getD_cons_succ, this, show (i + 1) * 2 + 1 = i * 2 + 1 + 1 + 1 from by omega, List.set_cons_succ, List.set_cons_succ]
theorem OwnT.set {b : Nat} {w : World} {g n c i : Nat} {l : List Pl.T} (h : OwnT b w (.slice (some ⟨g, 0, none⟩) n c) l) (hi : i < l.length) (d : Int) :
    OwnT b (w.setCell ⟨g, i * 2 + 1, none⟩ (.int .i64 d)) (.slice (some ⟨g, 0, none⟩) n c) (l.set i ((l.getD i (0, 0)).1, d)) := by
  rcases h.2 with ⟨he, hn⟩ | ⟨g', cap, cur, he, hb, hg, h1, h2, h3, h4⟩
  · cases he
  · injection he with e1 e2 e3
    injection e1 with e1
    injection e1 with e1 _ _
    subst e1
    subst e3
    refine ⟨by rw [cellsT_length], .inr ⟨g, c, cur.setIfInBounds (i * 2 + 1) (.int .i64 d), by rw [e2, List.length_set], hb, ?_, by rw [List.length_set]; exact h1, h2, by simpa using h3, ?_⟩⟩
    · simp [World.setCell, Array.getElem?_modify, hg]
    · rw [List.length_set, cellsT_set l i d hi, ← h4, Array.toList_setIfInBounds, List.take_set]
theorem OwnT.free {b : Nat} {w : World} {g n c : Nat} {l : List Pl.T} (h : OwnT b w (.slice (some ⟨g, 0, none⟩) n c) l) (j : Nat) : w.frozen? ⟨g, j, none⟩ = false := by
  rcases h.2 with ⟨he, hn⟩ | ⟨g', cap, cur, he, hb, hg, _⟩
  · cases he
  · injection he with e1 e2 e3
    injection e1 with e1
    injection e1 with e1 _ _
    subst e1
    simp [World.frozen?, hg]
theorem OwnT.cells {b : Nat} {w : World} {g n c : Nat} {l : List Pl.T} (h : OwnT b w (.slice (some ⟨g, 0, none⟩) n c) l) {k : Nat} (hk : k < l.length) :
    w.cell? ⟨g, k * 2, none⟩ = some (.int .i64 (l.getD k (0, 0)).1) ∧ w.cell? ⟨g, k * 2 + 1, none⟩ = some (.int .i64 (l.getD k (0, 0)).2) := by
  obtain ⟨a, c', he, ht⟩ := h.ts
  injection he with e1 e2 e3
  subst e1
  obtain ⟨b', o', hb, h1, h2⟩ := ht.at hk
  injection hb with hb
  injection hb with hb ho _
  subst hb; subst ho
  simpa using And.intro h1 h2
theorem New.ownT {w w' : World} (h : New w w') {b : Nat} {v : Value} {l : List Pl.T} (ho : OwnT b w v l) : OwnT b w' v l := h.owns ho fun _ _ x => x
end Go.Proofs.YtjgmlicmjpgfcaaDoor
