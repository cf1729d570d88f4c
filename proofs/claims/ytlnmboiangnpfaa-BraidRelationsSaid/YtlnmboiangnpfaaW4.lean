/- Walks: permutations seen from the other side, and the one in which all change places. -/
import Derived.Test.YtlnmboiangnpfaaW3
namespace Go.Proofs.Ytlnmboiangnpfaa
open Go.RowKit

set_option maxHeartbeats 400000 in
theorem flipped_any (b n : Nat) (p : List Nat) (w : World) (hn : n ∈ Bd.ns) (hp : PermAt w b n p) :
    Calls Try.prog 23 #[.slice (some ⟨b, 0, none⟩) (n + 1) (n + 1)] w (MadePerm n (Bd.flp n p) w) := by
  have hn5 := ns_le hn
  have HN := Lib.hid hn
  have HP := Lib.hid hp
  have c1 := Lib.hid (identity_any n n w rfl hn)
  clear hn hp
  go_enter Try.func23, Try.ntmps23
  go_wp2_with fail
  refine c1.out.mono ?_
  rintro e w1 ⟨c, hcb, rfl, hc, hw1⟩
  have HC := Lib.hid hc
  have HW1 := Lib.hid hw1
  have HCB := Lib.hid hcb
  clear hc hw1 hcb c1
  go_wp2
  go_loopw [5] (fun i wr => ∃ k : Nat, 1 ≤ k ∧ k ≤ n + 1 ∧ i = .int .i64 k ∧ Hid (wr.rowIs c 3 (n + 1) (fun j => .int .i64 (if 1 ≤ j ∧ j < k then n + 1 - Bd.pg p (n + 1 - j) else j : Nat))) ∧ Hid (New w wr)) (fun i _ => n + 1 - (intOf i).toNat)
  case atStart =>
    refine ⟨1, by omega, by omega, rfl, Lib.hid (HC.out.1.congr fun j hj => ?_), HW1⟩
    rw [if_neg (by omega)]
    simp only [cellsOf, (Bd.perm_delta HN.out hj).2]
  case round =>
    obtain ⟨k, hk1, hk, rfl, HK, HW⟩ := hrel
    by_cases hlt : k ≤ n
    · have d1 := HK.out.cell (i := k) (by omega)
      have f1 := HK.out.frozen k
      rw [if_neg (by omega)] at d1
      obtain ⟨t, HT⟩ : ∃ t : Nat, Hid (t = n + 1 - k) := ⟨_, Lib.hid rfl⟩
      have htn : t < n + 1 := by have := HT.out; omega
      have hte : (n : Int) + 1 - k = t := by have := HT.out; omega
      have d2 := (New.perm HW.out HP.out).1.cell (i := t) htn
      have hb := (Bd.perm_mem HN.out HP.out.2 (x := t) (by omega)).2
      unfold cellsOf at d2
      go_wp2
      go_roundw
      case rel =>
        refine ⟨k + 1, by omega, by omega, by go_num, Lib.hid ((HK.out.set k _).congr fun j hj => ?_), Lib.hid (HW.out.setCell (a := ⟨c, k, none⟩) (.inr HCB.out) _)⟩
        by_cases c : j = k
        · subst c
          rw [if_pos rfl, if_pos (by omega), ← HT.out]
          exact congrArg _ (by omega)
        · rw [if_neg c]
          by_cases c2 : 1 ≤ j ∧ j < k
          · rw [if_pos c2, if_pos (by omega)]
          · rw [if_neg c2, if_neg (by omega)]
      case measure => simp [intOf]; omega
    · go_wp2
      go_ret
      refine ⟨c, HCB.out, rfl, ⟨HK.out.congr fun j hj => ?_, Bd.flp_mem HN.out HP.out.2⟩, HW.out⟩
      have := Bd.perm_flp HN.out HP.out.2 hj
      simp only [cellsOf, this]
      by_cases c : j = 0
      · subst c; rw [if_neg (by omega), if_pos rfl]
      · rw [if_pos (by omega), if_neg c]

/- a part of a row is turned round -/
def turned (n k : Nat) (f : Nat → Int) : Nat → Value := fun j => .int .i64 (if 1 ≤ j ∧ (j ≤ k ∨ n - k < j) then f (n + 1 - j) else f j)

set_option maxHeartbeats 1000000 in
theorem reverse_any (b n : Nat) (f : Nat → Int) (w : World) (h2 : 2 ≤ n) (h5 : n ≤ 5) (hr : w.rowIs b 3 (n + 1) (fun j => .int .i64 (f j))) :
    Calls Try.prog 33 #[.slice (some ⟨b, 1, none⟩) n n] w fun e w' => e = .returned (.tuple #[]) ∧ w'.rowIs b 3 (n + 1) (fun j => .int .i64 (if 1 ≤ j then f (n + 1 - j) else f j)) ∧ Fr (· = b) w w' := by
  have HR := Lib.hid hr
  clear hr
  go_enter Try.func33, Try.ntmps33
  go_wp2
  go_loopw [2, 3] (fun i j wr => ∃ k : Nat, 2 * k ≤ n ∧ i = .int .i64 k ∧ j = .int .i64 ((n : Int) - 1 - k) ∧ Hid (wr.rowIs b 3 (n + 1) (turned n k f)) ∧ Hid (Fr (· = b) w wr)) (fun i _ _ => n - (intOf i).toNat)
  case atStart =>
    refine ⟨0, by omega, rfl, by simp, Lib.hid (HR.out.congr fun j hj => ?_), Lib.hid (Fr.refl _ _)⟩
    unfold turned
    rw [if_neg (by omega)]
  case round =>
    obtain ⟨k, hk, rfl, rfl, HK, HW⟩ := hrel
    by_cases hlt : 2 * k + 1 < n
    · obtain ⟨t, HT⟩ : ∃ t : Nat, Hid (t = n - 1 - k) := ⟨_, Lib.hid rfl⟩
      have htn : t < n := by have := HT.out; omega
      have hkt : k < t := by have := HT.out; omega
      have hte : (n : Int) - 1 - k = t := by have := HT.out; omega
      obtain ⟨d1, d2, f1, f2, g1, g2⟩ := two_cells HK.out (a := 1 + k) (c := 1 + t) (by omega) (by omega) (by omega)
      have e1 : turned n k f (1 + k) = .int .i64 (f (1 + k)) := by unfold turned; rw [if_neg (by have := HT.out; omega)]
      have e2 : turned n k f (1 + t) = .int .i64 (f (1 + t)) := by unfold turned; rw [if_neg (by have := HT.out; omega)]
      rw [e1] at d1
      rw [e2] at d2
      simp only [e2] at g1
      clear e1 e2
      go_wp2
      go_region
      go_wp2
      go_roundw
      case rel =>
        have ht := HT.out
        refine ⟨k + 1, by omega, by go_num, ?_, Lib.hid ((((HK.out.set (1 + k) _).set (1 + t) _).drew).congr fun j hj => ?_), Lib.hid (((HW.out.setCell (a := ⟨b, 1 + k, none⟩) (.inl rfl) _).setCell (a := ⟨b, 1 + t, none⟩) (.inl rfl) _).drew)⟩
        · exact congrArg _ (by omega)
        · unfold turned
          by_cases c : j = 1 + t
          · subst c
            rw [if_pos rfl, if_pos (by omega)]
            congr 2
            omega
          · rw [if_neg c]
            by_cases c2 : j = 1 + k
            · subst c2
              rw [if_pos rfl, if_pos (by omega)]
              congr 2
              omega
            · rw [if_neg c2]
              by_cases c3 : 1 ≤ j ∧ (j ≤ k ∨ n - k < j)
              · rw [if_pos c3, if_pos (by omega)]
              · rw [if_neg c3, if_neg (by omega)]
      case measure => simp [intOf]; omega
    · go_wp2
      go_end0
      refine ⟨rfl, HK.out.congr fun j hj => ?_, HW.out⟩
      unfold turned
      by_cases c : 1 ≤ j
      · rw [if_pos c]
        by_cases c2 : j ≤ k ∨ n - k < j
        · rw [if_pos ⟨c, c2⟩]
        · rw [if_neg (by omega)]
          congr 2
          omega
      · rw [if_neg c, if_neg (by omega)]

set_option maxHeartbeats 400000 in
theorem delta_any (m : Int) (n : Nat) (w : World) (hm : m = n) (hn : n ∈ Bd.ns) :
    Calls Try.prog 24 #[.int .i64 m] w (MadePerm n (Bd.delta n) w) := by
  subst hm
  have hn5 := ns_le hn
  have HN := Lib.hid hn
  have c1 := Lib.hid (identity_any n n w rfl hn)
  clear hn
  go_enter Try.func24, Try.ntmps24
  go_wp2_with fail
  refine c1.out.mono ?_
  rintro e w1 ⟨c, hcb, rfl, hc, hw1⟩
  have r := Lib.hid (reverse_any c n (fun j => (Bd.pg (Bd.idn n) j : Nat)) w1 (by omega) (by omega) hc.1)
  have HC := Lib.hid hc
  have HW1 := Lib.hid hw1
  have HCB := Lib.hid hcb
  clear hc hw1 hcb c1
  go_wp2_with fail
  refine r.out.mono ?_
  rintro e w2 ⟨rfl, h2, h3⟩
  go_wp2
  go_ret
  refine ⟨c, HCB.out, rfl, ⟨h2.congr fun j hj => ?_, Bd.delta_mem HN.out⟩, Fr.next HW1.out h3 fun i hi => ?_⟩
  · have e1 := (Bd.perm_delta HN.out hj).1
    simp only [cellsOf, e1]
    by_cases c : j = 0
    · subst c
      rw [if_neg (by omega), if_pos rfl, (Bd.perm_delta HN.out hj).2]
    · rw [if_pos (by omega), if_neg c, (Bd.perm_delta HN.out (j := n + 1 - j) (by omega)).2]
  · right; rw [hi]; exact HCB.out

set_option maxHeartbeats 400000 in
theorem isOne_any (b g n : Nat) (p : List Nat) (w : World) (hn : n ∈ Bd.ns) (hp : PermAt w b n p) (hg : w.cell? ⟨g, 0, none⟩ = some (.int .i64 n)) :
    Calls Try.prog 27 #[.slice (some ⟨b, 0, none⟩) (n + 1) (n + 1), .pointer (some ⟨g, 0, none⟩)] w fun e w' => e = .returned (.bool (p == Bd.idn n)) ∧ New w w' := by
  have hn5 := ns_le hn
  have HN := Lib.hid hn
  have HP := Lib.hid hp
  have c1 := Lib.hid (identity_any n n w rfl hn)
  clear hn hp
  go_enter Try.func27, Try.ntmps27
  go_wp2_with fail
  refine c1.out.mono ?_
  rintro e w1 ⟨c, hcb, rfl, hc, hw1⟩
  have r := Lib.hid (equal_any b c n p (Bd.idn n) w1 HN.out (New.perm hw1 HP.out) hc)
  have HW1 := Lib.hid hw1
  clear hc hw1 hcb c1
  go_wp2_with fail
  refine r.out.mono ?_
  rintro e w2 ⟨rfl, h2⟩
  go_wp2
  go_ret
  exact ⟨rfl, HW1.out.trans h2⟩
end Go.Proofs.Ytlnmboiangnpfaa
