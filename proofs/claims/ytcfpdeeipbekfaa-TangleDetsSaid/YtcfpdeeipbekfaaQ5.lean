/- Walks: Of; words for tables of polynomials at work. -/
import Derived.Test.YtcfpdeeipbekfaaQ4
namespace Go.Proofs.Ytcfpdeeipbekfaa
open Go.RowKit

set_option maxRecDepth 100000 in
set_option maxHeartbeats 1000000 in
theorem of_any (v : Value) (l : List Pl.T) (w : World) (hx : Ts w v l) (hl : l.length ≤ 1000000) (he : Exps 1000000000 l) (hs : Pl.size l ≤ 1000000000000000000) :
    Calls Try.prog 53 #[v] w (GaveW l l.length w) := by
  obtain ⟨a, c, rfl, hx⟩ := hx
  obtain ⟨n, hn⟩ : ∃ n, n = l.length := ⟨_, rfl⟩
  rw [← hn] at hl ⊢
  have HN := Lib.hid hn
  have HX := Lib.hid hx
  have HE := Lib.hid he
  have HS := Lib.hid hs
  clear hn hx he hs
  have hmm := @run_makeMap Try.prog
  go_enter Try.func53, Try.ntmps53
  go_wp2
  go_loopw [9] (fun i wr => ∃ (k : Nat) (D : DataW Unit), k ≤ n ∧ i = .int .i64 k ∧ Hid (OM wr w.heap.size k D) ∧ Hid (RD D (l.take k)) ∧ Hid (New w wr)) (fun i _ => n - (intOf i).toNat)
  case atStart => exact ⟨0, .map [], by omega, rfl, Lib.hid (World.ownsMap_made _ _ _ _), Lib.hid (by rw [List.take_zero]; exact RD.empty), Lib.hid ((Fr.refl _ _).alloc _)⟩
  case round =>
    obtain ⟨k, D, hk, rfl, HO, HD, HF⟩ := hrel
    by_cases hlt : k < n
    · have hkl : k < l.length := by have := HN.out; omega
      obtain ⟨b, o, rfl, d1, d2⟩ := (New.terms HF.out HX.out).at hkl
      have hb := HE.out (l.getD k (0, 0)) (by rw [List.getD_eq_getElem?_getD, List.getElem?_eq_getElem hkl]; exact List.getElem_mem hkl)
      have ht := take_getD hkl
      have hz := Pl.co_le' (Nat.le_trans (size_take l (k + 1)) HS.out) (l.getD k (0, 0)).1
      obtain ⟨e1, H1⟩ : ∃ e, Hid (e = (l.getD k (0, 0)).1) := ⟨_, Lib.hid rfl⟩
      obtain ⟨e2, H2⟩ : ∃ e, Hid (e = (l.getD k (0, 0)).2) := ⟨_, Lib.hid rfl⟩
      rw [← H1.out] at d1 hb ht hz
      rw [← H2.out] at d2 ht
      rw [ht, Pl.co_app, Pl.co_cons, Pl.co_nil, if_pos rfl, Int.add_zero] at hz
      obtain ⟨b1, b2⟩ := hb
      obtain ⟨q, HQ⟩ : ∃ q, Hid (q = Pl.co (l.take k) e1) := ⟨_, Lib.hid rfl⟩
      rw [← HQ.out] at hz
      have z1 : -1000000000000000000 ≤ q + e2 := by omega
      have z2 : q + e2 ≤ 1000000000000000000 := by omega
      clear hz
      have HT := Lib.hid ht
      clear ht
      have z3 := Pl.co_le' (Nat.le_trans (size_take l k) HS.out) e1
      rw [← HQ.out] at z3
      have z5 : -1000000000000000000 ≤ q := by omega
      have z6 : q ≤ 1000000000000000000 := by omega
      clear z3
      go_wp2_with (first
        | (at_lookup; refine wpList_lookup_own_int _ rfl _ _ 101 rfl 3 3 .i64 law3 ul45 Try.underlying3 (zero3 _) w.heap.size k _ rfl (World.ownsMap.alloc HO.out _) _ _ rfl (Maps.keyOf_int_mk Try.underlying3 (wf64 (by omega))) ?_; intro cc hat hwc; obtain ⟨HC, c1, c2, c3, c4⟩ := look_bd HD.out HQ.out hat z1 z2 z5 z6; have c5 : -2000000000000000000 ≤ e2 := (by omega); have c6 : e2 ≤ 2000000000000000000 := (by omega); clear hat hwc)
        | (at_mapUpdate; refine wpList_mapUpdate_own _ rfl _ _ _ 101 rfl 3 3 law3 ul45 _ w.heap.size k _ rfl (World.ownsMap.alloc HO.out _) (by unfold maxLen; omega) _ _ _ rfl rfl (Maps.keyOf_int_mk Try.underlying3 (wf64 (by omega))) _ [] (plainElem_int Try.underlying3 (wf64 (by omega))) ?_; intro w2 hown2 hg2)
        | go_in)
      have HO2 := Lib.hid hown2
      have HG2 := Lib.hid hg2
      clear hown2 hg2
      go_wp2
      go_roundw
      case rel => exact ⟨k + 1, _, by omega, by go_num, HO2, Lib.hid (by rw [HT.out]; exact RD.put HD.out (by rw [HC.out, HQ.out])), Lib.hid ((Fr.alloc HF.out _).grown HG2.out fun k ek => .inr (by cases ek; exact Nat.le_refl _))⟩
      case measure => simp [intOf]; omega
    · obtain rfl : k = n := by omega
      go_wp2
      go_ret
      exact ⟨_, rfl, ⟨_, D, rfl, HO.out, by have := HD.out; rwa [HN.out, List.take_length] at this⟩, HF.out⟩
/- a map has no more entries than it has exponents -/
theorem Wk.tight {w : World} {v : Value} {l : List Pl.T} {n B : Nat} (h : Wk w v l n) (he : Pl.ExpsW (B : Nat) l) : Wk w v l (2 * B + 1) := by
  obtain ⟨b, D, rfl, ho, hr⟩ := h
  obtain ⟨k1, k2, k3⟩ := keys_facts ho
  have hs : Maps.size D ≤ 2 * B + 1 := by
    have := Kn.nodup_le (l := intKeys D) (m := (List.range (2 * B + 1)).map fun (i : Nat) => (i : Int) - (B : Int)) k1 fun x hx => by
      obtain ⟨t, ht, e⟩ := hr.key x ((k2 x).1 hx)
      have := he t ht
      rw [e] at this
      exact List.mem_map.2 ⟨(x + B).toNat, List.mem_range.2 (by omega), by omega⟩
    rw [k3, List.length_map, List.length_range] at this
    exact this
  refine ⟨b, D, rfl, ?_, hr⟩
  obtain ⟨es, clock, hb, hf, hn, rfl⟩ := ho
  refine ⟨es, clock, hb, hf, ?_, rfl⟩
  rw [Maps.size_eq, length_sorted] at hs
  simpa using hs
/- rows and tables of polynomials at work -/
def RowM (w : World) (v : Value) (m : Nat) (r : Nat → List Pl.T) (ne : Nat) : Prop :=
  ∃ a c, v = .slice a m c ∧ (m = 0 ∨ ∃ b o, a = some ⟨b, o, none⟩ ∧ ∀ k, k < m → ∃ x, w.cell? ⟨b, o + k, none⟩ = some x ∧ Wk w x (r k) ne)
def TabM (w : World) (v : Value) (n m : Nat) (T : Nat → Nat → List Pl.T) (ne : Nat) : Prop :=
  ∃ a c, v = .slice a n c ∧ (n = 0 ∨ ∃ b o, a = some ⟨b, o, none⟩ ∧ ∀ i, i < n → ∃ x, w.cell? ⟨b, o + i, none⟩ = some x ∧ RowM w x m (T i) ne)
theorem TabM.at {w : World} {v : Value} {n m ne : Nat} {T : Nat → Nat → List Pl.T} (h : TabM w v n m T ne) {i : Nat} (hi : i < n) : ∃ b o c a' c', v = .slice (some ⟨b, o, none⟩) n c ∧ w.cell? ⟨b, o + i, none⟩ = some (.slice a' m c') ∧ RowM w (.slice a' m c') m (T i) ne := by
  obtain ⟨a, c, rfl, hr⟩ := h
  rcases hr with h0 | ⟨b, o, rfl, hk⟩
  · omega
  · obtain ⟨x, h1, h2⟩ := hk i hi
    obtain ⟨a', c', rfl, h3⟩ := h2
    exact ⟨b, o, c, a', c', rfl, h1, a', c', rfl, h3⟩
theorem RowM.at {w : World} {a : Option Addr} {n c m ne : Nat} {r : Nat → List Pl.T} (h : RowM w (.slice a n c) m r ne) {k : Nat} (hk : k < m) : ∃ b o x, a = some ⟨b, o, none⟩ ∧ w.cell? ⟨b, o + k, none⟩ = some x ∧ Wk w x (r k) ne := by
  obtain ⟨a', c', e, hr⟩ := h
  injection e with e1 e2 e3
  subst e1
  rcases hr with h0 | ⟨b, o, rfl, hr⟩
  · omega
  · obtain ⟨x, h1, h2⟩ := hr k hk
    exact ⟨b, o, x, rfl, h1, h2⟩
end Go.Proofs.Ytcfpdeeipbekfaa
