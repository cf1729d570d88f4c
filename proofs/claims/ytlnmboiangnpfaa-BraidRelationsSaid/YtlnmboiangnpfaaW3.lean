/- Walks: permutations that are made anew, and whether two are equal. -/
import Derived.Test.YtlnmboiangnpfaaW2
namespace Go.Proofs.Ytlnmboiangnpfaa
open Go.RowKit

theorem Try.info3 : (Try.prog.info? 3).map (fun i => (i.zero, i.size, i.bytes)) = some (some (.int .i64 0), 1, 8) := by kernel_rfl

/- a call that makes a permutation -/
def MadePerm (n : Nat) (p : List Nat) (w : World) (e : Ending) (w' : World) : Prop :=
  ∃ b, w.heap.size ≤ b ∧ e = .returned (.slice (some ⟨b, 0, none⟩) (n + 1) (n + 1)) ∧ PermAt w' b n p ∧ New w w'

set_option maxHeartbeats 400000 in
theorem identity_any (m : Int) (n : Nat) (w : World) (hm : m = n) (hn : n ∈ Bd.ns) :
    Calls Try.prog 21 #[.int .i64 m] w (MadePerm n (Bd.idn n) w) := by
  subst hm
  have hn5 := ns_le hn
  have HN := Lib.hid hn
  clear hn
  have hmk := run_make_row' (P := Try.prog) 41 3 (.int .i64 0) 8 Try.underlying41 Try.info3 rfl .i64 .i64 (n + 1) (by omega) (by omega)
  rw [show ((n + 1 : Nat) : Int) = (n : Int) + 1 from by omega] at hmk
  have hr := World.rowIs_made w (.int .i64 0) (n + 1) 3
  obtain ⟨B, HB⟩ : ∃ B, Hid (B = w.heap.size) := ⟨_, Lib.hid rfl⟩
  obtain ⟨w1, HW1⟩ : ∃ w1, Hid (w1 = w.alloc (.cells (madeCells #[.int .i64 0] (n + 1)) 3)) := ⟨_, Lib.hid rfl⟩
  have hf1 : New w w1 := by rw [HW1.out]; exact (Fr.refl _ _).alloc _
  rw [← HB.out, ← HW1.out] at hr
  have HR := Lib.hid hr
  have HF := Lib.hid hf1
  clear hr hf1
  go_enter Try.func21, Try.ntmps21
  go_wp2
  rw [← HB.out, ← HW1.out]
  clear hmk
  go_loopw [4, 10] (fun _ i wr => ∃ k : Nat, k ≤ n + 1 ∧ i = .int .i64 k ∧ Hid (wr.rowIs B 3 (n + 1) (fun j => .int .i64 (if j < k then j else 0 : Nat))) ∧ Hid (New w wr)) (fun _ i _ => n + 1 - (intOf i).toNat)
  case atStart => exact ⟨0, by omega, rfl, Lib.hid (HR.out.congr fun j _ => by simp), HF⟩
  case round =>
    obtain ⟨k, hk, rfl, HK, HFr⟩ := hrel
    by_cases hlt : k < n + 1
    · have d1 := HK.out.cell hlt
      have f1 := HK.out.frozen k
      simp only [Nat.lt_irrefl, if_false] at d1
      go_wp2
      go_roundw
      case rel =>
        refine ⟨k + 1, by omega, by go_num, Lib.hid ((HK.out.set k _).congr fun j hj => ?_), Lib.hid (HFr.out.setCell (a := ⟨B, k, none⟩) (.inr (by rw [HB.out]; exact Nat.le_refl _)) _)⟩
        by_cases c : j = k
        · subst c; rw [if_pos rfl, if_pos (by omega)]
        · rw [if_neg c]
          by_cases c2 : j < k
          · rw [if_pos c2, if_pos (by omega)]
          · rw [if_neg c2, if_neg (by omega)]
      case measure => simp [intOf]; omega
    · go_wp2
      go_ret
      refine ⟨B, by rw [HB.out]; exact Nat.le_refl _, rfl, ⟨HK.out.congr fun j hj => ?_, Bd.idn_mem HN.out⟩, HFr.out⟩
      have := (Bd.perm_delta HN.out hj).2
      simp only [cellsOf, this]
      rw [if_pos (by omega)]

theorem perm_ext {n : Nat} {p q : List Nat} (hp : p.length = n + 1) (hq : q.length = n + 1) (h : ∀ j, j < n + 1 → Bd.pg p j = Bd.pg q j) : p = q := by
  apply List.ext_getElem (by omega)
  intro k h1 h2
  have := h k (by omega)
  rwa [Bd.pg, Bd.pg, List.getD_eq_getElem?_getD, List.getD_eq_getElem?_getD, List.getElem?_eq_getElem h1, List.getElem?_eq_getElem h2] at this

set_option maxHeartbeats 400000 in
theorem equal_any (b c n : Nat) (p q : List Nat) (w : World) (hn : n ∈ Bd.ns) (hp : PermAt w b n p) (hq : PermAt w c n q) :
    Calls Try.prog 15 #[.slice (some ⟨b, 0, none⟩) (n + 1) (n + 1), .slice (some ⟨c, 0, none⟩) (n + 1) (n + 1)] w fun e w' => e = .returned (.bool (p == q)) ∧ New w w' := by
  have hn5 := ns_le hn
  have LP := Lib.hid (Bd.perm_len hn hp.2)
  have LQ := Lib.hid (Bd.perm_len hn hq.2)
  have HP := Lib.hid hp
  have HQ := Lib.hid hq
  clear hn hp hq
  go_enter Try.func15, Try.ntmps15
  go_wp2
  go_loopw [5, 13] (fun _ i wr => ∃ k : Nat, k ≤ n + 1 ∧ i = .int .i64 k ∧ Hid (∀ j, j < k → Bd.pg p j = Bd.pg q j) ∧ Hid (New w wr)) (fun _ i _ => n + 1 - (intOf i).toNat)
  case atStart => exact ⟨0, by omega, rfl, Lib.hid (fun j h => by omega), Lib.hid (Fr.refl _ _)⟩
  case round =>
    obtain ⟨k, hk, rfl, HK, HW⟩ := hrel
    by_cases hlt : k < n + 1
    · have d1 := (New.perm HW.out HP.out).1.cell hlt
      have d2 := (New.perm HW.out HQ.out).1.cell hlt
      unfold cellsOf at d1 d2
      by_cases he : Bd.pg p k = Bd.pg q k
      · have e2 : (((Bd.pg p k : Nat) : Int) != ((Bd.pg q k : Nat) : Int)) = false := by rw [bne_eq_false_iff_eq]; omega
        have HE := Lib.hid he
        clear he
        go_wp2
        go_quiet (fail)
        go_wp2
        go_roundw
        case rel =>
          refine ⟨k + 1, by omega, by go_num, Lib.hid fun j hj => ?_, Lib.hid (HW.out.drewN _)⟩
          by_cases c : j = k
          · subst c; exact HE.out
          · exact HK.out j (by omega)
        case measure => simp [intOf]; omega
      · have e2 : (((Bd.pg p k : Nat) : Int) != ((Bd.pg q k : Nat) : Int)) = true := by rw [bne_iff_ne]; omega
        have HE := Lib.hid he
        clear he
        go_wp2
        go_quiet (fail)
        go_wp2
        go_ret
        refine ⟨ret_bool ?_, HW.out.drewN _⟩
        symm
        rw [beq_eq_false_iff_ne]
        intro e
        exact HE.out (by rw [e])
    · go_wp2
      go_ret
      refine ⟨ret_bool ?_, HW.out⟩
      symm
      rw [beq_iff_eq]
      exact perm_ext LP.out LQ.out fun j hj => HK.out j (by omega)
end Go.Proofs.Ytlnmboiangnpfaa
