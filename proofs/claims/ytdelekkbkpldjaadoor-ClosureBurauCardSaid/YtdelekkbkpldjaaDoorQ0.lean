/- Walks over words: word, join, recip, Check. -/
import Derived.Laws.OwnMore
import Derived.Test.YtdelekkbkpldjaaDoorP2
import Derived.Test.YtdelekkbkpldjaaDoorMAllc
namespace Go.Proofs.YtdelekkbkpldjaaDoor
open Go.RowKit

theorem Fr.ints {S : Nat → Prop} {w w' : World} (h : Fr S w w') {a : Option Addr} {xs : List Int} (hi : IntsAt w a xs) (hs : ∀ b o, a = some ⟨b, o, none⟩ → ¬ S b) : IntsAt w' a xs := by
  rcases hi with rfl | ⟨b, o, rfl, hc⟩
  · exact .inl rfl
  · exact .inr ⟨b, o, rfl, fun i hi => h.cell (hc i hi) (hs b o rfl)⟩
def ints (xs : List Int) : List Value := xs.map (Value.int .i64)
theorem IntsAt.of_owns {w : World} {base : Nat} {v : Value} {xs : List Int} (h : w.ownsRow base 3 1 v xs.length (ints xs)) : ∃ a c, v = .slice a xs.length c ∧ IntsAt w a xs ∧ (∀ b o, a = some ⟨b, o, none⟩ → base ≤ b) := by
  rcases h.2 with ⟨rfl, h0⟩ | ⟨g, cap, cur, rfl, hb, hg, hn, hc, hs, ht⟩
  · rw [h0]
    exact ⟨none, 0, rfl, .inl (List.length_eq_zero_iff.1 h0), fun _ _ e => by cases e⟩
  · refine ⟨_, cap, rfl, .inr ⟨g, 0, rfl, fun i hi => ?_⟩, fun b o e => by cases e; exact hb⟩
    have := World.ownsRow.cells h (g := g) rfl i (.int .i64 (xs.getD i 0)) (by rw [ints, List.getElem?_map, List.getElem?_eq_getElem hi]; simp [List.getD_eq_getElem?_getD, List.getElem?_eq_getElem hi])
    rwa [addr_add] at this
structure WordsAt (w : World) (L : Nat) (ws : List (List Int)) (A : Nat → Option Addr) (C : Nat → Nat) : Prop where
  row : ∀ i, i < ws.length → w.cell? ⟨L, i, none⟩ = some (.slice (A i) (ws.getD i []).length (C i))
  ints : ∀ i, i < ws.length → IntsAt w (A i) (ws.getD i [])
theorem WordsAt.new {w w' : World} {L : Nat} {ws : List (List Int)} {A : Nat → Option Addr} {C : Nat → Nat} (h : WordsAt w L ws A C) (hn : New w w') : WordsAt w' L ws A C :=
  ⟨fun i hi => hn.cell (h.row i hi) (fun x => x), fun i hi => New.ints hn (h.ints i hi)⟩

def Own (base : Nat) (w : World) (v : Value) (xs : List Int) : Prop := w.ownsRow base 3 1 v xs.length (ints xs)

theorem one_ints (y : Int) : ∀ u ∈ [Value.int .i64 y], u.oneCell' = true := by simp [Value.oneCell']

theorem Own.snoc {base : Nat} {w : World} {v : Value} {xs : List Int} {y : Int} (h : w.ownsRow base 3 1 v (xs.length + 1) (ints xs ++ [.int .i64 y])) : Own base w v (xs ++ [y]) := by
  unfold Own
  have e1 : (xs ++ [y]).length = xs.length + 1 := by simp
  have e2 : ints (xs ++ [y]) = ints xs ++ [.int .i64 y] := by simp [ints]
  rw [e1, e2]; exact h

theorem letsM_snoc {n : Nat} {xs : List Int} {y : Int} (h : Kn.LetsM n xs) (hy : Kn.Let n y) : Kn.LetsM n (xs ++ [y]) := h.app fun a ha => by rw [List.mem_singleton.1 ha]; exact hy
def OwnWord (n most : Nat) (w : World) (e : Ending) (w' : World) : Prop :=
  ∃ xs, Kn.LetsM n xs ∧ xs.length ≤ most ∧ ∃ v, e = .returned v ∧ Own w.heap.size w' v xs ∧ New w w'

set_option maxRecDepth 100000 in
set_option maxHeartbeats 1000000 in
theorem wordOwn_any (a : Option Addr) (len c n most : Nat) (i mo : Int) (raw : List Int) (w : World) (hi : i = n) (hmo : mo = most) (hlen : len = raw.length) (h2 : 2 ≤ n) (h5 : n ≤ 5) (hm : most ≤ 20) (hx : IntsAt w a raw) (lx : raw.length ≤ 9223372036854775807) (hr : Raw raw) :
    Calls Tryd.prog 6 #[.int .i64 i, .slice a len c, .int .i64 mo] w (OwnWord n most w) := by
  subst hi
  subst hmo
  subst hlen
  have HX := Lib.hid hx
  have HR := Lib.hid hr
  clear hx hr
  obtain ⟨i0, hi, hz0, hz1, hz2⟩ := info_parts Tryd.info3
  go_enter Tryd.func6, Tryd.ntmps6
  go_wp2
  go_loopw [7, 8, 9] (fun v i _ wr => ∃ (k : Nat) (xs : List Int), k ≤ raw.length ∧ k ≤ most ∧ i = .int .i64 k ∧ xs.length = k ∧ Hid (Kn.LetsM n xs) ∧ Hid (Own w.heap.size wr v xs) ∧ Hid (New w wr)) (fun _ i _ _ => most - (intOf i).toNat)
  case atStart => exact ⟨0, [], by omega, by omega, rfl, rfl, Lib.hid (fun _ h => by simp at h), Lib.hid (World.ownsRow_nil _ _ _ _), Lib.hid (Fr.refl _ _)⟩
  case round =>
    obtain ⟨k, xs, hk, hkm, rfl, hxl, HWd, HO, HF⟩ := hrel
    have HXL := Lib.hid hxl
    have hxle : xs.length ≤ 20 := by omega
    clear hxl
    by_cases hlt : k < raw.length
    · by_cases hlm : k < most
      · obtain ⟨b, o, rfl, d1⟩ := (New.ints HF.out HX.out).at hlt
        obtain ⟨x, HXk⟩ : ∃ x, Hid (x = raw.getD k 0) := ⟨_, Lib.hid rfl⟩
        have hb := HR.out.get k
        rw [← HXk.out] at d1 hb
        have cc := picked_any x (2 * ((n : Int) - 1)) wr hb.1 hb.2 (by omega) (by omega)
        have hp := pick_range (n := x) (m := 2 * ((n : Int) - 1)) (by omega)
        obtain ⟨q, HQ⟩ : ∃ q, Hid (q = pick x (2 * ((n : Int) - 1))) := ⟨_, Lib.hid rfl⟩
        rw [← HQ.out] at cc hp
        have CC := Lib.hid cc
        have hp1 := hp.1
        have hp2 := hp.2
        clear cc hp hb
        by_cases hq : q < (n : Int) - 1
        · go_wp2_with fail
          refine CC.out.mono ?_
          rintro e w' ⟨rfl, rfl⟩
          go_wp2_with (at_builtin; refine wpList_append_own _ rfl _ _ 22 rfl w.heap.size 3 i0 (.int .i64 0) 1 8 Tryd.underlying22 hi hz0 hz1 hz2 rfl (by decide) _ xs.length (ints xs) rfl ?d0 ⟨_, 0, none⟩ 1 1 [.int .i64 (q + 1)] rfl rfl ?d2 ?d3 ?d4 ?d5 ?d6 ?_)
          case d0 => exact World.ownsRow.alloc HO.out _
          case d2 => exact cell_one_new _ _ _
          case d3 => exact one_ints _
          case d4 => unfold maxLen; omega
          case d5 => omega
          case d6 => have := HF.out.size; simp; omega
          intro v' w1 hown hgrow _
          have hnew := Lib.hid (New.appended HF.out HO.out hgrow)
          have ho := Lib.hid (Own.snoc hown)
          clear hown hgrow
          go_wp2
          go_roundw
          case rel => exact ⟨k + 1, xs ++ [q + 1], by omega, by omega, by go_num, by simp [HXL.out], Lib.hid (letsM_snoc HWd.out ⟨by omega, by omega⟩), ho, hnew⟩
          case measure => simp [intOf]; omega
        · go_wp2_with fail
          refine CC.out.mono ?_
          rintro e w' ⟨rfl, rfl⟩
          go_wp2_with (at_builtin; refine wpList_append_own _ rfl _ _ 22 rfl w.heap.size 3 i0 (.int .i64 0) 1 8 Tryd.underlying22 hi hz0 hz1 hz2 rfl (by decide) _ xs.length (ints xs) rfl ?f0 ⟨_, 0, none⟩ 1 1 [.int .i64 ((n : Int) - 2 - q)] rfl rfl ?f2 ?f3 ?f4 ?f5 ?f6 ?_)
          case f0 => exact World.ownsRow.alloc HO.out _
          case f2 => exact cell_one_new _ _ _
          case f3 => exact one_ints _
          case f4 => unfold maxLen; omega
          case f5 => omega
          case f6 => have := HF.out.size; simp; omega
          intro v' w1 hown hgrow _
          have hnew := Lib.hid (New.appended HF.out HO.out hgrow)
          have ho := Lib.hid (Own.snoc hown)
          clear hown hgrow
          go_wp2
          go_roundw
          case rel => exact ⟨k + 1, xs ++ [(n : Int) - 2 - q], by omega, by omega, by go_num, by simp [HXL.out], Lib.hid (letsM_snoc HWd.out ⟨by omega, by omega⟩), ho, hnew⟩
          case measure => simp [intOf]; omega
      · go_wp2
        go_ret
        exact ⟨xs, HWd.out, by rw [HXL.out]; exact hkm, _, rfl, HO.out, HF.out⟩
    · go_wp2
      go_ret
      exact ⟨xs, HWd.out, by rw [HXL.out]; exact hkm, _, rfl, HO.out, HF.out⟩
theorem word_get {n : Nat} {xs : List Int} (h : Kn.LetsM n xs) {k : Nat} (hk : k < xs.length) : Kn.Let n (xs.getD k 0) := by
  rw [List.getD_eq_getElem?_getD, List.getElem?_eq_getElem hk]
  exact h _ (List.getElem_mem hk)
theorem let_bd {n : Nat} {a : Int} (h : Kn.Let n a) : a ≠ 0 ∧ a < n ∧ -(n : Int) < a := by
  have := h.ne
  have := h.lt
  omega
set_option maxHeartbeats 400000 in
theorem wrong_any (a : Int) (g n : Nat) (w : World) (h5 : n ≤ 5) (ha : Kn.Let n a) (hg : w.cell? ⟨g, 0, none⟩ = some (.int .i64 n)) :
    Calls Tryd.prog 42 #[.int .i64 a, .pointer (some ⟨g, 0, none⟩)] w fun e w' => e = .returned (.bool false) ∧ w = w' := by
  obtain ⟨h0, h1, h2⟩ := let_bd ha
  have e1 : (a == 0) = false := by rw [beq_eq_false_iff_ne]; exact h0
  have hb1 : a ≤ 5 := by omega
  have hb2 : -5 ≤ a := by omega
  have e2 : (decide ((n : Int) ≤ a) || decide (a ≤ -(n : Int))) = false := by rw [decide_eq_false (by omega), decide_eq_false (by omega)]; rfl
  have E2 := Lib.hid e2
  clear h0 ha e2
  go_enter Tryd.func42, Tryd.ntmps42
  go_wp2
  go_ret
  exact ⟨ret_bool E2.out, rfl⟩

set_option maxHeartbeats 400000 in
theorem indexFunc_any (a : Option Addr) (c g n : Nat) (xs : List Int) (w : World) (h5 : n ≤ 5) (hx : IntsAt w a xs) (lx : xs.length ≤ 20) (hw : Kn.LetsM n xs) (hg : w.cell? ⟨g, 0, none⟩ = some (.int .i64 n)) :
    Calls Tryd.prog 56 #[.slice a xs.length c, .func (.func 42) #[] #[.pointer (some ⟨g, 0, none⟩)]] w fun e w' => e = .returned (.int .i64 (-1)) ∧ w = w' := by
  have HX := Lib.hid hx
  have HW := Lib.hid hw
  have HG := Lib.hid hg
  clear hx hw hg
  go_enter Tryd.func56, Tryd.ntmps56
  go_wp2
  go_loop [5, 8] (fun _ i => ∃ k : Nat, k ≤ xs.length ∧ i = .int .i64 k) (fun _ i => xs.length - (intOf i).toNat)
  case atStart => exact ⟨0, by omega, rfl⟩
  case round =>
    obtain ⟨k, hk, rfl⟩ := hrel
    by_cases hlt : k < xs.length
    · obtain ⟨b, o, rfl, d1⟩ := HX.out.at hlt
      have cc := wrong_any (xs.getD k 0) g n w h5 (word_get HW.out hlt) HG.out
      obtain ⟨x, HXk⟩ : ∃ x, Hid (x = xs.getD k 0) := ⟨_, Lib.hid rfl⟩
      rw [← HXk.out] at d1 cc
      have CC := Lib.hid cc
      clear cc
      go_wp2_with fail
      refine CC.out.mono ?_
      rintro e w' ⟨rfl, rfl⟩
      go_wp2
      go_round
      case rel => exact ⟨k + 1, by omega, by go_num⟩
      case measure => simp [intOf]; omega
    · go_wp2
      go_ret
      exact ⟨rfl, rfl⟩

set_option maxHeartbeats 400000 in
theorem containsFunc_any (a : Option Addr) (c g n : Nat) (xs : List Int) (w : World) (h5 : n ≤ 5) (hx : IntsAt w a xs) (lx : xs.length ≤ 20) (hw : Kn.LetsM n xs) (hg : w.cell? ⟨g, 0, none⟩ = some (.int .i64 n)) :
    Calls Tryd.prog 43 #[.slice a xs.length c, .func (.func 42) #[] #[.pointer (some ⟨g, 0, none⟩)]] w fun e w' => e = .returned (.bool false) ∧ w = w' := by
  have CC := Lib.hid (indexFunc_any a c g n xs w h5 hx lx hw hg)
  clear hx hw hg
  go_enter Tryd.func43, Tryd.ntmps43
  go_wp2_with fail
  refine CC.out.mono ?_
  rintro e w' ⟨rfl, rfl⟩
  go_wp2
  go_ret
  exact ⟨rfl, rfl⟩

set_option maxHeartbeats 1000000 in
theorem check_any (L m c n : Nat) (i : Int) (ws : List (List Int)) (A : Nat → Option Addr) (C : Nat → Nat) (w : World) (hi : i = n) (hm : m = ws.length) (hl : ws.length ≤ 10) (h2 : 2 ≤ n) (h5 : n ≤ 5) (hw : WordsAt w L ws A C) (hs : ∀ x ∈ ws, Kn.LetsM n x ∧ x.length ≤ 20) :
    Calls Tryd.prog 18 #[.int .i64 i, .slice (some ⟨L, 0, none⟩) m c] w fun e w' => e = .returned (.int .i64 0) ∧ New w w' := by
  subst hm
  subst hi
  have HW := Lib.hid hw
  have HS := Lib.hid hs
  clear hw hs
  obtain ⟨g, HGe⟩ : ∃ g, Hid (g = w.heap.size) := ⟨_, Lib.hid rfl⟩
  obtain ⟨w1, HW1⟩ : ∃ w1, Hid (w1 = w.alloc (.cells #[.int .i64 (n : Int)] 3)) := ⟨_, Lib.hid rfl⟩
  have hg : w1.cell? ⟨g, 0, none⟩ = some (.int .i64 n) := by rw [HGe.out, HW1.out]; exact cell_one_new w (.int .i64 (n : Int)) 3 0 _ rfl
  have hn1 : New w w1 := by rw [HW1.out]; exact (Fr.refl _ _).alloc _
  have HN1 := Lib.hid hn1
  clear hn1
  go_enter Tryd.func18, Tryd.ntmps18
  go_wp2_with fail
  rw [← HW1.out, ← HGe.out]
  go_loop [7, 19] (fun _ i => ∃ k : Nat, k ≤ ws.length ∧ i = .int .i64 k) (fun _ i => ws.length - (intOf i).toNat)
  case atStart => exact ⟨0, by omega, rfl⟩
  case round =>
    obtain ⟨k, hk, rfl⟩ := hrel
    by_cases hlt : k < ws.length
    · have hrow := (HW.out.new HN1.out).row k hlt
      have hin := (HW.out.new HN1.out).ints k hlt
      have hsx := HS.out (ws.getD k []) (by rw [List.getD_eq_getElem?_getD, List.getElem?_eq_getElem hlt]; exact List.getElem_mem hlt)
      have cc := Lib.hid (containsFunc_any (A k) (C k) g n (ws.getD k []) w1 h5 hin hsx.2 hsx.1 hg)
      obtain ⟨l, HLl⟩ : ∃ l, Hid (l = (ws.getD k []).length) := ⟨_, Lib.hid rfl⟩
      obtain ⟨ak, HA⟩ : ∃ ak, Hid (ak = A k) := ⟨_, Lib.hid rfl⟩
      obtain ⟨ck, HC⟩ : ∃ ck, Hid (ck = C k) := ⟨_, Lib.hid rfl⟩
      rw [← HLl.out, ← HA.out, ← HC.out] at cc hrow
      clear hin hsx
      go_wp2_with fail
      refine cc.out.mono ?_
      rintro e w' ⟨rfl, rfl⟩
      go_wp2
      go_round
      case rel => exact ⟨k + 1, by omega, by go_num⟩
      case measure => simp [intOf]; omega
    · go_wp2_with fail
      go_loop [9, 29] (fun _ i => ∃ k : Nat, k ≤ ws.length ∧ i = .int .i64 k) (fun _ i => ws.length - (intOf i).toNat)
      case atStart => exact ⟨0, by omega, rfl⟩
      case round =>
        obtain ⟨k, hk, rfl⟩ := hrel
        by_cases hlt : k < ws.length
        · have hrow := (HW.out.new HN1.out).row k hlt
          have hsx := HS.out (ws.getD k []) (by rw [List.getD_eq_getElem?_getD, List.getElem?_eq_getElem hlt]; exact List.getElem_mem hlt)
          obtain ⟨l, HLl⟩ : ∃ l, Hid (l = (ws.getD k []).length) := ⟨_, Lib.hid rfl⟩
          obtain ⟨ak, HA⟩ : ∃ ak, Hid (ak = A k) := ⟨_, Lib.hid rfl⟩
          obtain ⟨ck, HC⟩ : ∃ ck, Hid (ck = C k) := ⟨_, Lib.hid rfl⟩
          have hl20 : l ≤ 20 := by rw [HLl.out]; exact hsx.2
          rw [← HLl.out, ← HA.out, ← HC.out] at hrow
          clear hsx
          go_wp2
          go_round
          case rel => exact ⟨k + 1, by omega, by go_num⟩
          case measure => simp [intOf]; omega
        · go_wp2
          go_ret
          exact ⟨rfl, HN1.out⟩
def TabR (w : World) (a : Option Addr) (T : List (List Int)) : Prop :=
  T = [] ∨ ∃ g o, a = some ⟨g, o, none⟩ ∧ ∀ k, k < T.length → ∃ b c, w.cell? ⟨g, o + k, none⟩ = some (.slice b (T.getD k []).length c) ∧ IntsAt w b (T.getD k [])
theorem TabR.new {w w' : World} {a : Option Addr} {T : List (List Int)} (h : TabR w a T) (hn : New w w') : TabR w' a T := by
  rcases h with rfl | ⟨g, o, rfl, h⟩
  · exact .inl rfl
  · refine .inr ⟨g, o, rfl, fun k hk => ?_⟩
    obtain ⟨b, c, h1, h2⟩ := h k hk
    exact ⟨b, c, hn.cell h1 (fun x => x), New.ints hn h2⟩
theorem TabR.at {w : World} {a : Option Addr} {T : List (List Int)} (h : TabR w a T) {k : Nat} (hk : k < T.length) :
    ∃ g o b c, a = some ⟨g, o, none⟩ ∧ w.cell? ⟨g, o + k, none⟩ = some (.slice b (T.getD k []).length c) ∧ IntsAt w b (T.getD k []) := by
  rcases h with rfl | ⟨g, o, rfl, h⟩
  · simp at hk
  · obtain ⟨b, c, h1, h2⟩ := h k hk
    exact ⟨g, o, b, c, rfl, h1, h2⟩
end Go.Proofs.YtdelekkbkpldjaaDoor
