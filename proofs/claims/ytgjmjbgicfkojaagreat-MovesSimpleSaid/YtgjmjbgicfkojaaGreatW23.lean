/- Walks: Form$2 (an arc's new number). -/
import Derived.Test.YtgjmjbgicfkojaaGreatW22
namespace Go.Proofs.YtgjmjbgicfkojaaGreat
open Go.RowKit

/- the arcs met, and their new numbers -/
def NMap (W : World) (mb : Nat) (N : List Nat) : Prop :=
  ∃ D : DataW Unit, W.ownsMap Tryz.prog 3 (plainElem Tryz.prog 3) mb N.length D ∧ Maps.IsMap D ∧ Maps.size D = N.length ∧ ∀ x : Nat, D.atKey (.int .i64 (x : Nat)) (.lit (.int .i64 0)) = .lit (.int .i64 (if x ∈ N then (N.idxOf x + 1 : Nat) else 0 : Nat)) ∧ Maps.has D (.int .i64 (x : Nat)) = decide (x ∈ N)
theorem NMap.two {W : World} {mb : Nat} {N : List Nat} (h : NMap W mb N) : NumMap2 W mb N (fun x => N.idxOf x + 1) := by
  obtain ⟨D, h1, h2, _, h3⟩ := h
  exact ⟨D, h1, h2, h3⟩
theorem NMap.made (w : World) : NMap (w.alloc (.map #[] 0)) w.heap.size [] := ⟨_, World.ownsMap_made _ _ _ _, Maps.isMap_empty, rfl, fun x => ⟨by rw [if_neg (by simp)]; rfl, by rw [decide_eq_false (by simp)]; rfl⟩⟩
theorem NMap.fr {S : Nat → Prop} {W W' : World} {mb : Nat} {N : List Nat} (h : NMap W mb N) (hf : Fr S W W') (hs : ¬ S mb) : NMap W' mb N := by
  obtain ⟨D, ⟨es, ck, hb, r⟩, h1⟩ := h
  exact ⟨D, ⟨es, ck, (hf.block mb (Array.getElem?_eq_some_iff.1 hb).1 hs).trans hb, r⟩, h1⟩
theorem NMap.block {W : World} {mb : Nat} {N : List Nat} (h : NMap W mb N) : ∃ es ck, W.heap[mb]? = some (.map es ck) := h.two.block
theorem meet_in {N : List Nat} {x : Nat} (h : x ∈ N) : Kn.meet N x = N := by unfold Kn.meet; rw [if_pos h]
theorem meet_out {N : List Nat} {x : Nat} (h : x ∉ N) : Kn.meet N x = N ++ [x] := by unfold Kn.meet; rw [if_neg h]
theorem idx_val (mb x : Nat) (N : List Nat) {W : World} {D : DataW Unit} (hx : x ∉ N) (h0 : W.ownsMap Tryz.prog 3 (plainElem Tryz.prog 3) mb (N.length + 1) (D.put (.int .i64 (x : Nat)) (.lit (.int .i64 (N.length + 1 : Nat)))))
    (h1 : Maps.IsMap D) (ht : Maps.Tidy D) (hs : Maps.size D = N.length) (h2 : ∀ x : Nat, D.atKey (.int .i64 (x : Nat)) (.lit (.int .i64 0)) = .lit (.int .i64 (if x ∈ N then (N.idxOf x + 1 : Nat) else 0 : Nat)) ∧ Maps.has D (.int .i64 (x : Nat)) = decide (x ∈ N)) : NMap W mb (N ++ [x]) := by
  refine ⟨_, by rw [List.length_append]; exact h0, h1.put _ _, ?_, fun z => ?_⟩
  · rw [Maps.size_put ht, (h2 x).2, decide_eq_false hx, if_neg (by simp), hs, List.length_append, List.length_singleton]
  · have hk : WideAt.IsKeyLit (.int .i64 (x : Nat)) := trivial
    by_cases c : z = x
    · subst c
      refine ⟨?_, ?_⟩
      · rw [Maps.atKey_put_same h1 hk, if_pos (by simp), idx_new hx]
      · rw [Maps.has_put_same h1 hk, decide_eq_true (by simp)]
    · have hne : (Lit.int .i64 (z : Nat)) ≠ .int .i64 (x : Nat) := fun e => c (by injection e with _ e; omega)
      rw [Maps.atKey_put_other hne, Maps.has_put_other hne, (h2 z).1, (h2 z).2]
      by_cases d : z ∈ N
      · rw [if_pos d, if_pos (by simp [d]), idx_keep d, decide_eq_true d, decide_eq_true (by simp [d])]; exact ⟨rfl, rfl⟩
      · rw [if_neg d, if_neg (by simp [d, c]), decide_eq_false d, decide_eq_false (by simp [d, c])]; exact ⟨rfl, rfl⟩

set_option maxRecDepth 100000 in
set_option maxHeartbeats 4000000 in
theorem named_any (x B mb : Nat) (N : List Nat) (w : World) (hx : x ≤ 1000) (hN : N.length ≤ 900) (hbox : w.heap[B]? = some (.cells #[.map (some mb)] 80 (0, 0))) (hm : NMap w mb N) :
    Calls Tryz.prog 45 #[.int .i64 (x : Nat), .pointer (some ⟨B, 0, none⟩)] w (fun e w' => e = .returned (.int .i64 ((Kn.meet N x).idxOf x + 1 : Nat)) ∧ NMap w' mb (Kn.meet N x) ∧ Fr (fun k => k = mb) w w') := by
  have hb0 := (box_c hbox).1
  obtain ⟨vv, HVV⟩ : ∃ vv : Nat, Hid (vv = (Kn.meet N x).idxOf x + 1) := ⟨_, Lib.hid rfl⟩
  rw [← HVV.out]
  by_cases hxN : x ∈ N
  · rw [meet_in hxN] at HVV
    have hk := hm.two.look (x := x) hx
    have hk1 := hm.two.look1 hxN hx
    rw [if_pos hxN, decide_eq_true hxN, ← HVV.out] at hk
    rw [← HVV.out] at hk1
    rw [meet_in hxN]
    have HM := Lib.hid hm
    clear hm hbox hxN
    go_enter Tryz.func45, Tryz.ntmps45
    go_wp2
    go_ret
    exact ⟨rfl, HM.out, Fr.refl _ _⟩
  · have hk := hm.two.look (x := x) hx
    rw [if_neg hxN, decide_eq_false hxN] at hk
    rw [meet_out hxN] at HVV ⊢
    obtain ⟨es, ck, hmb⟩ := hm.block
    have hBm : ¬ B = mb := fun e => by subst e; rw [hbox] at hmb; cases hmb
    obtain ⟨D, hown, h1, hs, h2⟩ := hm
    have ht := hown.tidy Tryz.law3
    obtain ⟨m, HM⟩ : ∃ m, Hid (m = N.length) := ⟨_, Lib.hid rfl⟩
    rw [← HM.out] at hown hs hN
    have hv1 : vv = m + 1 := by rw [HVV.out, idx_new hxN, HM.out]
    subst hv1
    have hlen := hown.len Tryz.ul80 3
    rw [hs] at hlen
    have HO := Lib.hid hown
    have H1 := Lib.hid h1
    have HT := Lib.hid ht
    have HS := Lib.hid hs
    have H2 := Lib.hid h2
    have HB := Lib.hid hbox
    have HX := Lib.hid hxN
    have HWk := Lib.hid (wfN (x := x) (by omega))
    have HWm := Lib.hid (wfN (x := m + 1) (by omega))
    clear hown h1 ht hs h2 hbox hxN hmb
    go_enter Tryz.func45, Tryz.ntmps45
    go_wp2_with (first
      | (at_mapUpdate; refine wpList_mapUpdate_own _ rfl _ _ _ 80 rfl 3 3 Tryz.law3 Tryz.ul80 _ mb m _ rfl HO.out (by unfold maxLen; omega) _ _ _ rfl rfl (Maps.keyOf_int_mk Tryz.underlying3 HWk.out) _ [] (plainElem_int Tryz.underlying3 HWm.out) ?_; intro w6 hown6 hg6; have HN6 : Hid (NMap w6 mb (N ++ [x])) := Lib.hid (idx_val mb x N HX.out (by rw [← HM.out]; exact hown6) H1.out HT.out (by rw [HS.out, HM.out]) H2.out); have HF6 : Hid (Fr (fun k => k = mb) w w6) := Lib.hid ((Fr.refl (fun k => k = mb) _).grown hg6 fun k e => .inl (Option.some.inj e).symm); have hb6 := (box_c (HF6.out.blk HB.out hBm)).1; have hk6 := HN6.out.two.look1 (x := x) (by simp) (by omega); rw [idx_new HX.out, ← HM.out] at hk6; clear hown6 hg6))
    go_ret
    exact ⟨rfl, HN6.out, HF6.out⟩
end Go.Proofs.YtgjmjbgicfkojaaGreat
