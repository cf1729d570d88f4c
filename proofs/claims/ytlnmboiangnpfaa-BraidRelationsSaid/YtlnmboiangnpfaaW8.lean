/- Walks: words are looked at letter by letter. -/
import Derived.Test.YtlnmboiangnpfaaW7
namespace Go.Proofs.Ytlnmboiangnpfaa
open Go.RowKit

theorem word_get {n : Nat} {xs : List Int} (h : Bd.Word n xs) {k : Nat} (hk : k < xs.length) : Bd.Let n (xs.getD k 0) := by
  rw [List.getD_eq_getElem?_getD, List.getElem?_eq_getElem hk]
  exact h _ (List.getElem_mem hk)
theorem let_bd {n : Nat} {a : Int} (h : Bd.Let n a) : a ≠ 0 ∧ a < n ∧ -(n : Int) < a := by
  rcases h with h | h <;> omega

set_option maxHeartbeats 400000 in
theorem wrong_any (a : Int) (g n : Nat) (w : World) (h5 : n ≤ 5) (ha : Bd.Let n a) (hg : w.cell? ⟨g, 0, none⟩ = some (.int .i64 n)) :
    Calls Try.prog 19 #[.int .i64 a, .pointer (some ⟨g, 0, none⟩)] w fun e w' => e = .returned (.bool false) ∧ w = w' := by
  obtain ⟨h0, h1, h2⟩ := let_bd ha
  have e1 : (a == 0) = false := by rw [beq_eq_false_iff_ne]; exact h0
  have hb1 : a ≤ 5 := by omega
  have hb2 : -5 ≤ a := by omega
  have e2 : (decide ((n : Int) ≤ a) || decide (a ≤ -(n : Int))) = false := by rw [decide_eq_false (by omega), decide_eq_false (by omega)]; rfl
  have E2 := Lib.hid e2
  clear h0 ha e2
  go_enter Try.func19, Try.ntmps19
  go_wp2
  go_ret
  exact ⟨ret_bool E2.out, rfl⟩

set_option maxHeartbeats 400000 in
theorem indexFunc_any (a : Option Addr) (c g n : Nat) (xs : List Int) (w : World) (h5 : n ≤ 5) (hx : IntsAt w a xs) (lx : xs.length ≤ 20) (hw : Bd.Word n xs) (hg : w.cell? ⟨g, 0, none⟩ = some (.int .i64 n)) :
    Calls Try.prog 31 #[.slice a xs.length c, .func (.func 19) #[] #[.pointer (some ⟨g, 0, none⟩)]] w fun e w' => e = .returned (.int .i64 (-1)) ∧ w = w' := by
  have HX := Lib.hid hx
  have HW := Lib.hid hw
  have HG := Lib.hid hg
  clear hx hw hg
  go_enter Try.func31, Try.ntmps31
  go_wp2
  go_loop [5, 8] (fun _ i => ∃ k : Nat, k ≤ xs.length ∧ i = .int .i64 k) (fun _ i => xs.length - (intOf i).toNat)
  case atStart => exact ⟨0, by omega, rfl⟩
  case round =>
    obtain ⟨k, hk, rfl⟩ := hrel
    by_cases hlt : k < xs.length
    · obtain ⟨b, o, rfl, d1⟩ := HX.out.at hlt
      have cc := wrong_any (xs.getD k 0) g n w h5 (word_get HW.out hlt) HG.out
      obtain ⟨x, HXk⟩ : ∃ x, Hid (x = xs.getD k 0) := ⟨_, Lib.hid rfl⟩
      rw [← HXk.out] at d1 cc
      have CC := Lib.hid cc
      clear cc
      go_wp2_with fail
      refine CC.out.mono ?_
      rintro e w' ⟨rfl, rfl⟩
      go_wp2
      go_round
      case rel => exact ⟨k + 1, by omega, by go_num⟩
      case measure => simp [intOf]; omega
    · go_wp2
      go_ret
      exact ⟨rfl, rfl⟩

set_option maxHeartbeats 400000 in
theorem containsFunc_any (a : Option Addr) (c g n : Nat) (xs : List Int) (w : World) (h5 : n ≤ 5) (hx : IntsAt w a xs) (lx : xs.length ≤ 20) (hw : Bd.Word n xs) (hg : w.cell? ⟨g, 0, none⟩ = some (.int .i64 n)) :
    Calls Try.prog 20 #[.slice a xs.length c, .func (.func 19) #[] #[.pointer (some ⟨g, 0, none⟩)]] w fun e w' => e = .returned (.bool false) ∧ w = w' := by
  have CC := Lib.hid (indexFunc_any a c g n xs w h5 hx lx hw hg)
  clear hx hw hg
  go_enter Try.func20, Try.ntmps20
  go_wp2_with fail
  refine CC.out.mono ?_
  rintro e w' ⟨rfl, rfl⟩
  go_wp2
  go_ret
  exact ⟨rfl, rfl⟩

set_option maxHeartbeats 1000000 in
theorem check_any (L m c n : Nat) (i : Int) (ws : List (List Int)) (A : Nat → Option Addr) (C : Nat → Nat) (w : World) (hi : i = n) (hm : m = ws.length) (hl : ws.length ≤ 10) (h2 : 2 ≤ n) (h5 : n ≤ 5) (hw : WordsAt w L ws A C) (hs : ∀ x ∈ ws, Bd.Word n x ∧ x.length ≤ 20) :
    Calls Try.prog 11 #[.int .i64 i, .slice (some ⟨L, 0, none⟩) m c] w fun e w' => e = .returned (.int .i64 0) ∧ New w w' := by
  subst hm
  subst hi
  have HW := Lib.hid hw
  have HS := Lib.hid hs
  clear hw hs
  obtain ⟨g, HGe⟩ : ∃ g, Hid (g = w.heap.size) := ⟨_, Lib.hid rfl⟩
  obtain ⟨w1, HW1⟩ : ∃ w1, Hid (w1 = w.alloc (.cells #[.int .i64 (n : Int)] 3)) := ⟨_, Lib.hid rfl⟩
  have hg : w1.cell? ⟨g, 0, none⟩ = some (.int .i64 n) := by rw [HGe.out, HW1.out]; exact cell_one_new w (.int .i64 (n : Int)) 3 0 _ rfl
  have hn1 : New w w1 := by rw [HW1.out]; exact (Fr.refl _ _).alloc _
  have HN1 := Lib.hid hn1
  clear hn1
  go_enter Try.func11, Try.ntmps11
  go_wp2_with fail
  rw [← HW1.out, ← HGe.out]
  go_loop [7, 19] (fun _ i => ∃ k : Nat, k ≤ ws.length ∧ i = .int .i64 k) (fun _ i => ws.length - (intOf i).toNat)
  case atStart => exact ⟨0, by omega, rfl⟩
  case round =>
    obtain ⟨k, hk, rfl⟩ := hrel
    by_cases hlt : k < ws.length
    · have hrow := (HW.out.new HN1.out).row k hlt
      have hin := (HW.out.new HN1.out).ints k hlt
      have hsx := HS.out (ws.getD k []) (by rw [List.getD_eq_getElem?_getD, List.getElem?_eq_getElem hlt]; exact List.getElem_mem hlt)
      have cc := Lib.hid (containsFunc_any (A k) (C k) g n (ws.getD k []) w1 h5 hin hsx.2 hsx.1 hg)
      obtain ⟨l, HLl⟩ : ∃ l, Hid (l = (ws.getD k []).length) := ⟨_, Lib.hid rfl⟩
      obtain ⟨ak, HA⟩ : ∃ ak, Hid (ak = A k) := ⟨_, Lib.hid rfl⟩
      obtain ⟨ck, HC⟩ : ∃ ck, Hid (ck = C k) := ⟨_, Lib.hid rfl⟩
      rw [← HLl.out, ← HA.out, ← HC.out] at cc hrow
      clear hin hsx
      go_wp2_with fail
      refine cc.out.mono ?_
      rintro e w' ⟨rfl, rfl⟩
      go_wp2
      go_round
      case rel => exact ⟨k + 1, by omega, by go_num⟩
      case measure => simp [intOf]; omega
    · go_wp2_with fail
      go_loop [9, 29] (fun _ i => ∃ k : Nat, k ≤ ws.length ∧ i = .int .i64 k) (fun _ i => ws.length - (intOf i).toNat)
      case atStart => exact ⟨0, by omega, rfl⟩
      case round =>
        obtain ⟨k, hk, rfl⟩ := hrel
        by_cases hlt : k < ws.length
        · have hrow := (HW.out.new HN1.out).row k hlt
          have hsx := HS.out (ws.getD k []) (by rw [List.getD_eq_getElem?_getD, List.getElem?_eq_getElem hlt]; exact List.getElem_mem hlt)
          obtain ⟨l, HLl⟩ : ∃ l, Hid (l = (ws.getD k []).length) := ⟨_, Lib.hid rfl⟩
          obtain ⟨ak, HA⟩ : ∃ ak, Hid (ak = A k) := ⟨_, Lib.hid rfl⟩
          obtain ⟨ck, HC⟩ : ∃ ck, Hid (ck = C k) := ⟨_, Lib.hid rfl⟩
          have hl20 : l ≤ 20 := by rw [HLl.out]; exact hsx.2
          rw [← HLl.out, ← HA.out, ← HC.out] at hrow
          clear hsx
          go_wp2
          go_round
          case rel => exact ⟨k + 1, by omega, by go_num⟩
          case measure => simp [intOf]; omega
        · go_wp2
          go_ret
          exact ⟨rfl, HN1.out⟩
end Go.Proofs.Ytlnmboiangnpfaa
